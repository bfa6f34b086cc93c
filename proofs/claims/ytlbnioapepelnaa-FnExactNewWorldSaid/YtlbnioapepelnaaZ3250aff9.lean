/- What these functions do, told for open values, out of the machine with continuations. Printed by a program of this session. -/
import Derived.Test.YtlbnioapepelnaaZ7df1697c
import Derived.KernelRfl
namespace Go.Proofs.Ytlbnioapepelnaa.G
open Go.RowKit
set_option linter.unusedVariables false
set_option maxRecDepth 100000
noncomputable section
variable {R : Type} (k : Nat)
/-! laws_eqChain -/
namespace S.laws_eqChain
noncomputable def c0 : Code := bodyOf Try.f18
@[simp] def n0 {R : Type} (k : Nat) (G : KT1 R) (v0 v1 : GV) (h : Heap) : Option R := kbox v0 h fun v2 h => kbox v1 h fun v3 h => (kfa 0 v2).bind fun v5 => (kload1 h v5).bind fun v6 => (kfa 0 v3).bind fun v7 => (kload1 h v7).bind fun v8 => (kN NN fn.laws_eqServerS [v6, v8] h).bind fun v9 => (kun .not v9).bind fun v10 => kcond v10 (G .ret (.bool false) h) ((kfa 1 v2).bind fun v11 => (kload1 h v11).bind fun v12 => (kfa 1 v3).bind fun v13 => (kload1 h v13).bind fun v14 => (kN NN fn.laws_eqStringSS [v12, v14] h).bind fun v15 => (kun .not v15).bind fun v16 => kcond v16 (G .ret (.bool false) h) ((kfa 2 v2).bind fun v17 => (kload1 h v17).bind fun v18 => (kfa 2 v3).bind fun v19 => (kload1 h v19).bind fun v20 => (kN NN fn.laws_eqInt64SS [v18, v20] h).bind fun v21 => (kun .not v21).bind fun v22 => kcond v22 (G .ret (.bool false) h) (G .ret (.bool true) h)))
theorem n0_eq (G : KT1 R) (σ : GS) (h : Heap) : KC k 23 c0 σ h (fun x σ h => G x (σ 4) h) = n0 k G (σ 0) (σ 1) h := by kernel_rfl
def run {R : Type} (k : Nat) (a0 : GV) (a1 : GV) (h : Heap) (fin : GV → Heap → Option R) : Option R := n0 k (fun x v4 h => kend x (fin v4 h)) a0 a1 h
theorem run_eq {R : Type} (k : Nat) (a0 : GV) (a1 : GV) (h : Heap) (fin : GV → Heap → Option R) : kfun PP cfg NN HH k fn.laws_eqChain [a0, a1] h fin = run k a0 a1 h fin := (kfun_eq (nt := 23) (c := c0) (show PP.funcs[fn.laws_eqChain]? = some Try.f18 by kernel_rfl) (by kernel_rfl) (by kernel_rfl) (fun x σ h => by cases x <;> kernel_rfl)).trans (n0_eq k (fun x v4 h => kend x (fin v4 h)) _ h)
theorem gives {k : Nat} {a0 : GV} {a1 : GV} {v : GV} (e : run k a0 a1 [] finN = some v) : NN fn.laws_eqChain [a0, a1] = some v := nω_of (by kernel_rfl) ((run_eq k a0 a1 [] finN).trans e)
end S.laws_eqChain
/-! laws_markChain -/
namespace S.laws_markChain
noncomputable def c0 : Code := bodyOf Try.f19
@[simp] def n0 {R : Type} (k : Nat) (G : KT1 R) (v0 v1 : GV) (h : Heap) : Option R := kbox v0 h fun v2 h => (kfa 0 v2).bind fun v5 => (kload1 h v5).bind fun v6 => (HH fn.laws_markServerS [v6, v1] h).bind fun r => kr r fun v8 h => (kfa 1 v2).bind fun v9 => (kload1 h v9).bind fun v10 => (HH fn.laws_markStringSS [v10, v8] h).bind fun r => kr r fun v12 h => (kfa 2 v2).bind fun v13 => (kload1 h v13).bind fun v14 => (HH fn.laws_markInt64SS [v14, v12] h).bind fun r => kr r fun v16 h => G .ret v16 h
theorem n0_eq (G : KT1 R) (σ : GS) (h : Heap) : KC k 18 c0 σ h (fun x σ h => G x (σ 4) h) = n0 k G (σ 0) (σ 1) h := by kernel_rfl
def run {R : Type} (k : Nat) (a0 : GV) (a1 : GV) (h : Heap) (fin : GV → Heap → Option R) : Option R := n0 k (fun x v4 h => kend x (fin v4 h)) a0 a1 h
theorem run_eq {R : Type} (k : Nat) (a0 : GV) (a1 : GV) (h : Heap) (fin : GV → Heap → Option R) : kfun PP cfg NN HH k fn.laws_markChain [a0, a1] h fin = run k a0 a1 h fin := (kfun_eq (nt := 18) (c := c0) (show PP.funcs[fn.laws_markChain]? = some Try.f19 by kernel_rfl) (by kernel_rfl) (by kernel_rfl) (fun x σ h => by cases x <;> kernel_rfl)).trans (n0_eq k (fun x v4 h => kend x (fin v4 h)) _ h)
theorem gives {k : Nat} {a0 : GV} {a1 : GV} {h : Heap} {r : GV × Heap} (e : run k a0 a1 h finH = some r) : HH fn.laws_markChain [a0, a1] h = some r := kω_of ((run_eq k a0 a1 h finH).trans e)
end S.laws_markChain
/-! laws_heldChain -/
namespace S.laws_heldChain
noncomputable def c0 : Code := bodyOf Try.f20
@[simp] def n0 {R : Type} (k : Nat) (G : KT1 R) (v0 v1 : GV) (h : Heap) : Option R := kbox v0 h fun v2 h => (kfa 0 v2).bind fun v5 => (kload1 h v5).bind fun v6 => (kN NN fn.laws_heldServerS [v6, v1] h).bind fun v8 => (kbin .lss v8 (.int .i64 0)).bind fun v10 => kcond v10 (G .ret (.int .i64 (-1)) h) ((kfa 1 v2).bind fun v11 => (kload1 h v11).bind fun v12 => (kN NN fn.laws_heldStringSS [v12, v8] h).bind fun v14 => (kbin .lss v14 (.int .i64 0)).bind fun v16 => kcond v16 (G .ret (.int .i64 (-1)) h) ((kfa 2 v2).bind fun v17 => (kload1 h v17).bind fun v18 => (kN NN fn.laws_heldInt64SS [v18, v14] h).bind fun v20 => (kbin .lss v20 (.int .i64 0)).bind fun v22 => kcond v22 (G .ret (.int .i64 (-1)) h) (G .ret v20 h)))
theorem n0_eq (G : KT1 R) (σ : GS) (h : Heap) : KC k 24 c0 σ h (fun x σ h => G x (σ 4) h) = n0 k G (σ 0) (σ 1) h := by kernel_rfl
def run {R : Type} (k : Nat) (a0 : GV) (a1 : GV) (h : Heap) (fin : GV → Heap → Option R) : Option R := n0 k (fun x v4 h => kend x (fin v4 h)) a0 a1 h
theorem run_eq {R : Type} (k : Nat) (a0 : GV) (a1 : GV) (h : Heap) (fin : GV → Heap → Option R) : kfun PP cfg NN HH k fn.laws_heldChain [a0, a1] h fin = run k a0 a1 h fin := (kfun_eq (nt := 24) (c := c0) (show PP.funcs[fn.laws_heldChain]? = some Try.f20 by kernel_rfl) (by kernel_rfl) (by kernel_rfl) (fun x σ h => by cases x <;> kernel_rfl)).trans (n0_eq k (fun x v4 h => kend x (fin v4 h)) _ h)
theorem gives {k : Nat} {a0 : GV} {a1 : GV} {v : GV} (e : run k a0 a1 [] finN = some v) : NN fn.laws_heldChain [a0, a1] = some v := nω_of (by kernel_rfl) ((run_eq k a0 a1 [] finN).trans e)
end S.laws_heldChain
/-! laws_eqServerS -/
namespace S.laws_eqServerS
noncomputable def c0 : Code := bodyOf Try.f107
noncomputable def c1 : Code := cR c0
noncomputable def c2 : Code := cR c1
noncomputable def c3 : Code := cR c2
@[simp] def n3 {R : Type} (k : Nat) (G : KT1 R) (h : Heap) : Option R := G .ret (.bool true) h
theorem n3_eq (G : KT1 R) (σ : GS) (h : Heap) : KC k 27 c3 σ h (fun x σ h => G x (σ 4) h) = n3 k G h := by kernel_rfl
noncomputable def c4 : Code := cL c2
noncomputable def c5 : Code := cR c4
noncomputable def c6 : Code := cL c5
noncomputable def c7 : Code := cL c6
noncomputable def c8 : Code := cR c7
noncomputable def c9 : Code := cR c8
@[simp] def n9 {R : Type} (k : Nat) (G : KT4 R) (v0 v1 v4 v5 : GV) (h : Heap) : Option R := (kbin .add v5 (.int .i64 1)).bind fun v16 => G .nrm v0 v1 v4 v16 h
theorem n9_eq (G : KT4 R) (σ : GS) (h : Heap) : KC k 27 c9 σ h (fun x σ h => G x (σ 0) (σ 1) (σ 4) (σ 5) h) = n9 k G (σ 0) (σ 1) (σ 4) (σ 5) h := by kernel_rfl
noncomputable def c10 : Code := cL c8
noncomputable def c11 : Code := cL c10
@[simp] def n11 {R : Type} (k : Nat) (G : KT4 R) (v0 v1 v4 v5 : GV) (h : Heap) : Option R := (kia 2 v0 v5).bind fun v19 => (kloadA 2 h v19).bind fun v20 => (kia 2 v1 v5).bind fun v23 => (kloadA 2 h v23).bind fun v24 => (kN NN fn.laws_eqServer [v20, v24] h).bind fun v25 => (kun .not v25).bind fun v26 => kcond v26 (G .ret v0 v1 (.bool false) v5 h) (G .nrm v0 v1 v4 v5 h)
theorem n11_eq (G : KT4 R) (σ : GS) (h : Heap) : KC k 27 c11 σ h (fun x σ h => G x (σ 0) (σ 1) (σ 4) (σ 5) h) = n11 k G (σ 0) (σ 1) (σ 4) (σ 5) h := by kernel_rfl
@[simp] def n10 (G : KT4 R) (v0 v1 v4 v5 : GV) (h : Heap) : Option R := n11 k (fun x v0 v1 v4 v5 h => kb 1 x fun x => G x v0 v1 v4 v5 h) v0 v1 v4 v5 h
theorem n10_eq (G : KT4 R) (σ : GS) (h : Heap) : KC k 27 c10 σ h (fun x σ h => G x (σ 0) (σ 1) (σ 4) (σ 5) h) = n10 k G (σ 0) (σ 1) (σ 4) (σ 5) h := (kblock_eq (a := c11) rfl).trans (n11_eq k (fun x v0 v1 v4 v5 h => kb 1 x fun x => G x v0 v1 v4 v5 h) σ h)
@[simp] def n8 (G : KT4 R) (v0 v1 v4 v5 : GV) (h : Heap) : Option R := n10 k (fun x v0 v1 v4 v5 h => kx x (n9 k G v0 v1 v4 v5 h) (G x v0 v1 v4 v5 h)) v0 v1 v4 v5 h
theorem n8_eq (G : KT4 R) (σ : GS) (h : Heap) : KC k 27 c8 σ h (fun x σ h => G x (σ 0) (σ 1) (σ 4) (σ 5) h) = n8 k G (σ 0) (σ 1) (σ 4) (σ 5) h := (kseq (b := c9) rfl (fun σ h => n9_eq k G σ h)).trans (n10_eq k (fun x v0 v1 v4 v5 h => kx x (n9 k G v0 v1 v4 v5 h) (G x v0 v1 v4 v5 h)) σ h)
noncomputable def c12 : Code := cL c7
@[simp] def n7 (G : KT4 R) (v0 v1 v4 v5 : GV) (h : Heap) : Option R := (klen v0).bind fun v13 => (kbin .lss v5 v13).bind fun v14 => kcond v14 (n8 k G v0 v1 v4 v5 h) (G (.ext 0) v0 v1 v4 v5 h)
theorem n7_eq (G : KT4 R) (σ : GS) (h : Heap) : KC k 27 c7 σ h (fun x σ h => G x (σ 0) (σ 1) (σ 4) (σ 5) h) = n7 k G (σ 0) (σ 1) (σ 4) (σ 5) h := (kseq (a := c12) (b := c8) rfl (fun σ h => n8_eq k G σ h)).trans (by kernel_rfl)
def l6 {R : Type} (k : Nat) (G : KT1 R) : Nat → GV → GV → GV → GV → Heap → Option R
  | 0, _, _, _, _, _ => none
  | r + 1, v0, v1, v4, v5, h => n7 k (fun x v0 v1 v4 v5 h => kx x (l6 k G r v0 v1 v4 v5 h) (G x v4 h)) v0 v1 v4 v5 h
theorem l6_eq {R : Type} (k : Nat) (G : KT1 R) : ∀ (r : Nat) (σ : GS) (h : Heap), kloop (fun σ h K => KC k 27 c7 σ h K) r σ h (fun x σ h => G x (σ 4) h) = l6 k G r (σ 0) (σ 1) (σ 4) (σ 5) h
  | 0, _, _ => rfl
  | r + 1, σ, h => (kloop_eq (fun σ h => l6_eq k G r σ h)).trans (n7_eq k (fun x v0 v1 v4 v5 h => kx x (l6 k G r v0 v1 v4 v5 h) (G x v4 h)) σ h)
@[simp] def n6 (G : KT1 R) (v0 v1 v4 v5 : GV) (h : Heap) : Option R := l6 k G k v0 v1 v4 v5 h
theorem n6_eq (G : KT1 R) (σ : GS) (h : Heap) : KC k 27 c6 σ h (fun x σ h => G x (σ 4) h) = n6 k G (σ 0) (σ 1) (σ 4) (σ 5) h := (kloopc_eq (a := c7) rfl).trans (l6_eq k G k σ h)
@[simp] def n5 (G : KT1 R) (v0 v1 v4 v5 : GV) (h : Heap) : Option R := n6 k (fun x v4 h => kb 0 x fun x => G x v4 h) v0 v1 v4 v5 h
theorem n5_eq (G : KT1 R) (σ : GS) (h : Heap) : KC k 27 c5 σ h (fun x σ h => G x (σ 4) h) = n5 k G (σ 0) (σ 1) (σ 4) (σ 5) h := (kblock_eq (a := c6) rfl).trans (n6_eq k (fun x v4 h => kb 0 x fun x => G x v4 h) σ h)
noncomputable def c13 : Code := cL c4
@[simp] def n4 (G : KT1 R) (v0 v1 v4 : GV) (h : Heap) : Option R := n5 k G v0 v1 v4 (.int .i64 0) h
theorem n4_eq (G : KT1 R) (σ : GS) (h : Heap) : KC k 27 c4 σ h (fun x σ h => G x (σ 4) h) = n4 k G (σ 0) (σ 1) (σ 4) h := (kseq (a := c13) (b := c5) rfl (fun σ h => n5_eq k G σ h)).trans (by kernel_rfl)
@[simp] def n2 (G : KT1 R) (v0 v1 v4 : GV) (h : Heap) : Option R := n4 k (fun x v4 h => kx x (n3 k G h) (G x v4 h)) v0 v1 v4 h
theorem n2_eq (G : KT1 R) (σ : GS) (h : Heap) : KC k 27 c2 σ h (fun x σ h => G x (σ 4) h) = n2 k G (σ 0) (σ 1) (σ 4) h := (kseq (b := c3) rfl (fun σ h => n3_eq k G σ h)).trans (n4_eq k (fun x v4 h => kx x (n3 k G h) (G x v4 h)) σ h)
noncomputable def c14 : Code := cL c1
@[simp] def n1 (G : KT1 R) (v0 v1 v4 : GV) (h : Heap) : Option R := (klen v0).bind fun v7 => (klen v1).bind fun v9 => (kbin .neq v7 v9).bind fun v10 => kcond v10 (G .ret (.bool false) h) (n2 k G v0 v1 v4 h)
theorem n1_eq (G : KT1 R) (σ : GS) (h : Heap) : KC k 27 c1 σ h (fun x σ h => G x (σ 4) h) = n1 k G (σ 0) (σ 1) (σ 4) h := (kseq (a := c14) (b := c2) rfl (fun σ h => n2_eq k G σ h)).trans (by kernel_rfl)
noncomputable def c15 : Code := cL c0
@[simp] def n0 (G : KT1 R) (v0 v1 : GV) (h : Heap) : Option R := n1 k G v0 v1 (.bool false) h
theorem n0_eq (G : KT1 R) (σ : GS) (h : Heap) : KC k 27 c0 σ h (fun x σ h => G x (σ 4) h) = n0 k G (σ 0) (σ 1) h := (kseq (a := c15) (b := c1) rfl (fun σ h => n1_eq k G σ h)).trans (by kernel_rfl)
def run {R : Type} (k : Nat) (a0 : GV) (a1 : GV) (h : Heap) (fin : GV → Heap → Option R) : Option R := n0 k (fun x v4 h => kend x (fin v4 h)) a0 a1 h
theorem run_eq {R : Type} (k : Nat) (a0 : GV) (a1 : GV) (h : Heap) (fin : GV → Heap → Option R) : kfun PP cfg NN HH k fn.laws_eqServerS [a0, a1] h fin = run k a0 a1 h fin := (kfun_eq (nt := 27) (c := c0) (show PP.funcs[fn.laws_eqServerS]? = some Try.f107 by kernel_rfl) (by kernel_rfl) (by kernel_rfl) (fun x σ h => by cases x <;> kernel_rfl)).trans (n0_eq k (fun x v4 h => kend x (fin v4 h)) _ h)
theorem gives {k : Nat} {a0 : GV} {a1 : GV} {v : GV} (e : run k a0 a1 [] finN = some v) : NN fn.laws_eqServerS [a0, a1] = some v := nω_of (by kernel_rfl) ((run_eq k a0 a1 [] finN).trans e)
end S.laws_eqServerS
/-! laws_eqServer -/
namespace S.laws_eqServer
noncomputable def c0 : Code := bodyOf Try.f197
@[simp] def n0 {R : Type} (k : Nat) (G : KT1 R) (v0 v1 : GV) (h : Heap) : Option R := kbox v0 h fun v2 h => kbox v1 h fun v3 h => (kfa 0 v2).bind fun v5 => (kload1 h v5).bind fun v6 => (kfa 0 v3).bind fun v7 => (kload1 h v7).bind fun v8 => (kN NN fn.laws_eqStringS [v6, v8] h).bind fun v9 => (kun .not v9).bind fun v10 => kcond v10 (G .ret (.bool false) h) ((kfa 1 v2).bind fun v11 => (kload1 h v11).bind fun v12 => (kfa 1 v3).bind fun v13 => (kload1 h v13).bind fun v14 => (kbin .neq v12 v14).bind fun v15 => kcond v15 (G .ret (.bool false) h) (G .ret (.bool true) h))
theorem n0_eq (G : KT1 R) (σ : GS) (h : Heap) : KC k 16 c0 σ h (fun x σ h => G x (σ 4) h) = n0 k G (σ 0) (σ 1) h := by kernel_rfl
def run {R : Type} (k : Nat) (a0 : GV) (a1 : GV) (h : Heap) (fin : GV → Heap → Option R) : Option R := n0 k (fun x v4 h => kend x (fin v4 h)) a0 a1 h
theorem run_eq {R : Type} (k : Nat) (a0 : GV) (a1 : GV) (h : Heap) (fin : GV → Heap → Option R) : kfun PP cfg NN HH k fn.laws_eqServer [a0, a1] h fin = run k a0 a1 h fin := (kfun_eq (nt := 16) (c := c0) (show PP.funcs[fn.laws_eqServer]? = some Try.f197 by kernel_rfl) (by kernel_rfl) (by kernel_rfl) (fun x σ h => by cases x <;> kernel_rfl)).trans (n0_eq k (fun x v4 h => kend x (fin v4 h)) _ h)
theorem gives {k : Nat} {a0 : GV} {a1 : GV} {v : GV} (e : run k a0 a1 [] finN = some v) : NN fn.laws_eqServer [a0, a1] = some v := nω_of (by kernel_rfl) ((run_eq k a0 a1 [] finN).trans e)
end S.laws_eqServer
/-! laws_markServerS -/
namespace S.laws_markServerS
noncomputable def c0 : Code := bodyOf Try.f110
noncomputable def c1 : Code := cR c0
noncomputable def c2 : Code := cR c1
@[simp] def n2 {R : Type} (k : Nat) (G : KT1 R) (v1 : GV) (h : Heap) : Option R := G .ret v1 h
theorem n2_eq (G : KT1 R) (σ : GS) (h : Heap) : KC k 27 c2 σ h (fun x σ h => G x (σ 4) h) = n2 k G (σ 1) h := by kernel_rfl
noncomputable def c3 : Code := cL c1
noncomputable def c4 : Code := cR c3
noncomputable def c5 : Code := cL c4
noncomputable def c6 : Code := cL c5
noncomputable def c7 : Code := cR c6
noncomputable def c8 : Code := cR c7
@[simp] def n8 {R : Type} (k : Nat) (G : KT4 R) (v0 v1 v4 v5 : GV) (h : Heap) : Option R := (kbin .add v5 (.int .i64 1)).bind fun v11 => G .nrm v0 v1 v4 v11 h
theorem n8_eq (G : KT4 R) (σ : GS) (h : Heap) : KC k 27 c8 σ h (fun x σ h => G x (σ 0) (σ 1) (σ 4) (σ 5) h) = n8 k G (σ 0) (σ 1) (σ 4) (σ 5) h := by kernel_rfl
noncomputable def c9 : Code := cL c7
noncomputable def c10 : Code := cL c9
@[simp] def n10 {R : Type} (k : Nat) (G : KT4 R) (v0 v1 v4 v5 : GV) (h : Heap) : Option R := (kia 2 v0 v5).bind fun v14 => (kfa 0 v14).bind fun v15 => (kload1 h v15).bind fun v16 => (HH fn.laws_markStringS [v16, v1] h).bind fun r => kr r fun v18 h => (kia 2 v0 v5).bind fun v22 => (kfa 1 v22).bind fun v23 => (kstore 1 h v23 v18).bind fun h => (kbin .add v18 (.int .i64 1)).bind fun v25 => G .nrm v0 v25 v4 v5 h
theorem n10_eq (G : KT4 R) (σ : GS) (h : Heap) : KC k 27 c10 σ h (fun x σ h => G x (σ 0) (σ 1) (σ 4) (σ 5) h) = n10 k G (σ 0) (σ 1) (σ 4) (σ 5) h := by kernel_rfl
@[simp] def n9 (G : KT4 R) (v0 v1 v4 v5 : GV) (h : Heap) : Option R := n10 k (fun x v0 v1 v4 v5 h => kb 1 x fun x => G x v0 v1 v4 v5 h) v0 v1 v4 v5 h
theorem n9_eq (G : KT4 R) (σ : GS) (h : Heap) : KC k 27 c9 σ h (fun x σ h => G x (σ 0) (σ 1) (σ 4) (σ 5) h) = n9 k G (σ 0) (σ 1) (σ 4) (σ 5) h := (kblock_eq (a := c10) rfl).trans (n10_eq k (fun x v0 v1 v4 v5 h => kb 1 x fun x => G x v0 v1 v4 v5 h) σ h)
@[simp] def n7 (G : KT4 R) (v0 v1 v4 v5 : GV) (h : Heap) : Option R := n9 k (fun x v0 v1 v4 v5 h => kx x (n8 k G v0 v1 v4 v5 h) (G x v0 v1 v4 v5 h)) v0 v1 v4 v5 h
theorem n7_eq (G : KT4 R) (σ : GS) (h : Heap) : KC k 27 c7 σ h (fun x σ h => G x (σ 0) (σ 1) (σ 4) (σ 5) h) = n7 k G (σ 0) (σ 1) (σ 4) (σ 5) h := (kseq (b := c8) rfl (fun σ h => n8_eq k G σ h)).trans (n9_eq k (fun x v0 v1 v4 v5 h => kx x (n8 k G v0 v1 v4 v5 h) (G x v0 v1 v4 v5 h)) σ h)
noncomputable def c11 : Code := cL c6
@[simp] def n6 (G : KT4 R) (v0 v1 v4 v5 : GV) (h : Heap) : Option R := (klen v0).bind fun v8 => (kbin .lss v5 v8).bind fun v9 => kcond v9 (n7 k G v0 v1 v4 v5 h) (G (.ext 0) v0 v1 v4 v5 h)
theorem n6_eq (G : KT4 R) (σ : GS) (h : Heap) : KC k 27 c6 σ h (fun x σ h => G x (σ 0) (σ 1) (σ 4) (σ 5) h) = n6 k G (σ 0) (σ 1) (σ 4) (σ 5) h := (kseq (a := c11) (b := c7) rfl (fun σ h => n7_eq k G σ h)).trans (by kernel_rfl)
def l5 {R : Type} (k : Nat) (G : KT2 R) : Nat → GV → GV → GV → GV → Heap → Option R
  | 0, _, _, _, _, _ => none
  | r + 1, v0, v1, v4, v5, h => n6 k (fun x v0 v1 v4 v5 h => kx x (l5 k G r v0 v1 v4 v5 h) (G x v1 v4 h)) v0 v1 v4 v5 h
theorem l5_eq {R : Type} (k : Nat) (G : KT2 R) : ∀ (r : Nat) (σ : GS) (h : Heap), kloop (fun σ h K => KC k 27 c6 σ h K) r σ h (fun x σ h => G x (σ 1) (σ 4) h) = l5 k G r (σ 0) (σ 1) (σ 4) (σ 5) h
  | 0, _, _ => rfl
  | r + 1, σ, h => (kloop_eq (fun σ h => l5_eq k G r σ h)).trans (n6_eq k (fun x v0 v1 v4 v5 h => kx x (l5 k G r v0 v1 v4 v5 h) (G x v1 v4 h)) σ h)
@[simp] def n5 (G : KT2 R) (v0 v1 v4 v5 : GV) (h : Heap) : Option R := l5 k G k v0 v1 v4 v5 h
theorem n5_eq (G : KT2 R) (σ : GS) (h : Heap) : KC k 27 c5 σ h (fun x σ h => G x (σ 1) (σ 4) h) = n5 k G (σ 0) (σ 1) (σ 4) (σ 5) h := (kloopc_eq (a := c6) rfl).trans (l5_eq k G k σ h)
@[simp] def n4 (G : KT2 R) (v0 v1 v4 v5 : GV) (h : Heap) : Option R := n5 k (fun x v1 v4 h => kb 0 x fun x => G x v1 v4 h) v0 v1 v4 v5 h
theorem n4_eq (G : KT2 R) (σ : GS) (h : Heap) : KC k 27 c4 σ h (fun x σ h => G x (σ 1) (σ 4) h) = n4 k G (σ 0) (σ 1) (σ 4) (σ 5) h := (kblock_eq (a := c5) rfl).trans (n5_eq k (fun x v1 v4 h => kb 0 x fun x => G x v1 v4 h) σ h)
noncomputable def c12 : Code := cL c3
@[simp] def n3 (G : KT2 R) (v0 v1 v4 : GV) (h : Heap) : Option R := n4 k G v0 v1 v4 (.int .i64 0) h
theorem n3_eq (G : KT2 R) (σ : GS) (h : Heap) : KC k 27 c3 σ h (fun x σ h => G x (σ 1) (σ 4) h) = n3 k G (σ 0) (σ 1) (σ 4) h := (kseq (a := c12) (b := c4) rfl (fun σ h => n4_eq k G σ h)).trans (by kernel_rfl)
@[simp] def n1 (G : KT1 R) (v0 v1 v4 : GV) (h : Heap) : Option R := n3 k (fun x v1 v4 h => kx x (n2 k G v1 h) (G x v4 h)) v0 v1 v4 h
theorem n1_eq (G : KT1 R) (σ : GS) (h : Heap) : KC k 27 c1 σ h (fun x σ h => G x (σ 4) h) = n1 k G (σ 0) (σ 1) (σ 4) h := (kseq (b := c2) rfl (fun σ h => n2_eq k G σ h)).trans (n3_eq k (fun x v1 v4 h => kx x (n2 k G v1 h) (G x v4 h)) σ h)
noncomputable def c13 : Code := cL c0
@[simp] def n0 (G : KT1 R) (v0 v1 : GV) (h : Heap) : Option R := n1 k G v0 v1 (.int .i64 0) h
theorem n0_eq (G : KT1 R) (σ : GS) (h : Heap) : KC k 27 c0 σ h (fun x σ h => G x (σ 4) h) = n0 k G (σ 0) (σ 1) h := (kseq (a := c13) (b := c1) rfl (fun σ h => n1_eq k G σ h)).trans (by kernel_rfl)
def run {R : Type} (k : Nat) (a0 : GV) (a1 : GV) (h : Heap) (fin : GV → Heap → Option R) : Option R := n0 k (fun x v4 h => kend x (fin v4 h)) a0 a1 h
theorem run_eq {R : Type} (k : Nat) (a0 : GV) (a1 : GV) (h : Heap) (fin : GV → Heap → Option R) : kfun PP cfg NN HH k fn.laws_markServerS [a0, a1] h fin = run k a0 a1 h fin := (kfun_eq (nt := 27) (c := c0) (show PP.funcs[fn.laws_markServerS]? = some Try.f110 by kernel_rfl) (by kernel_rfl) (by kernel_rfl) (fun x σ h => by cases x <;> kernel_rfl)).trans (n0_eq k (fun x v4 h => kend x (fin v4 h)) _ h)
theorem gives {k : Nat} {a0 : GV} {a1 : GV} {h : Heap} {r : GV × Heap} (e : run k a0 a1 h finH = some r) : HH fn.laws_markServerS [a0, a1] h = some r := kω_of ((run_eq k a0 a1 h finH).trans e)
end S.laws_markServerS
/-! laws_heldServerS -/
namespace S.laws_heldServerS
noncomputable def c0 : Code := bodyOf Try.f113
noncomputable def c1 : Code := cR c0
noncomputable def c2 : Code := cR c1
@[simp] def n2 {R : Type} (k : Nat) (G : KT1 R) (v1 : GV) (h : Heap) : Option R := G .ret v1 h
theorem n2_eq (G : KT1 R) (σ : GS) (h : Heap) : KC k 31 c2 σ h (fun x σ h => G x (σ 4) h) = n2 k G (σ 1) h := by kernel_rfl
noncomputable def c3 : Code := cL c1
noncomputable def c4 : Code := cR c3
noncomputable def c5 : Code := cL c4
noncomputable def c6 : Code := cL c5
noncomputable def c7 : Code := cR c6
noncomputable def c8 : Code := cR c7
@[simp] def n8 {R : Type} (k : Nat) (G : KT4 R) (v0 v1 v4 v5 : GV) (h : Heap) : Option R := (kbin .add v5 (.int .i64 1)).bind fun v11 => G .nrm v0 v1 v4 v11 h
theorem n8_eq (G : KT4 R) (σ : GS) (h : Heap) : KC k 31 c8 σ h (fun x σ h => G x (σ 0) (σ 1) (σ 4) (σ 5) h) = n8 k G (σ 0) (σ 1) (σ 4) (σ 5) h := by kernel_rfl
noncomputable def c9 : Code := cL c7
noncomputable def c10 : Code := cL c9
@[simp] def n10 {R : Type} (k : Nat) (G : KT4 R) (v0 v1 v4 v5 : GV) (h : Heap) : Option R := (kia 2 v0 v5).bind fun v14 => (kfa 0 v14).bind fun v15 => (kload1 h v15).bind fun v16 => (kN NN fn.laws_heldStringS [v16, v1] h).bind fun v18 => (kbin .lss v18 (.int .i64 0)).bind fun v20 => kcond v20 (G .ret v0 v18 (.int .i64 (-1)) v5 h) ((kia 2 v0 v5).bind fun v23 => (kfa 1 v23).bind fun v24 => (kload1 h v24).bind fun v25 => (kbin .neq v25 v18).bind fun v27 => kcond v27 (G .ret v0 v18 (.int .i64 (-1)) v5 h) ((kbin .add v18 (.int .i64 1)).bind fun v29 => G .nrm v0 v29 v4 v5 h))
theorem n10_eq (G : KT4 R) (σ : GS) (h : Heap) : KC k 31 c10 σ h (fun x σ h => G x (σ 0) (σ 1) (σ 4) (σ 5) h) = n10 k G (σ 0) (σ 1) (σ 4) (σ 5) h := by kernel_rfl
@[simp] def n9 (G : KT4 R) (v0 v1 v4 v5 : GV) (h : Heap) : Option R := n10 k (fun x v0 v1 v4 v5 h => kb 1 x fun x => G x v0 v1 v4 v5 h) v0 v1 v4 v5 h
theorem n9_eq (G : KT4 R) (σ : GS) (h : Heap) : KC k 31 c9 σ h (fun x σ h => G x (σ 0) (σ 1) (σ 4) (σ 5) h) = n9 k G (σ 0) (σ 1) (σ 4) (σ 5) h := (kblock_eq (a := c10) rfl).trans (n10_eq k (fun x v0 v1 v4 v5 h => kb 1 x fun x => G x v0 v1 v4 v5 h) σ h)
@[simp] def n7 (G : KT4 R) (v0 v1 v4 v5 : GV) (h : Heap) : Option R := n9 k (fun x v0 v1 v4 v5 h => kx x (n8 k G v0 v1 v4 v5 h) (G x v0 v1 v4 v5 h)) v0 v1 v4 v5 h
theorem n7_eq (G : KT4 R) (σ : GS) (h : Heap) : KC k 31 c7 σ h (fun x σ h => G x (σ 0) (σ 1) (σ 4) (σ 5) h) = n7 k G (σ 0) (σ 1) (σ 4) (σ 5) h := (kseq (b := c8) rfl (fun σ h => n8_eq k G σ h)).trans (n9_eq k (fun x v0 v1 v4 v5 h => kx x (n8 k G v0 v1 v4 v5 h) (G x v0 v1 v4 v5 h)) σ h)
noncomputable def c11 : Code := cL c6
@[simp] def n6 (G : KT4 R) (v0 v1 v4 v5 : GV) (h : Heap) : Option R := (klen v0).bind fun v8 => (kbin .lss v5 v8).bind fun v9 => kcond v9 (n7 k G v0 v1 v4 v5 h) (G (.ext 0) v0 v1 v4 v5 h)
theorem n6_eq (G : KT4 R) (σ : GS) (h : Heap) : KC k 31 c6 σ h (fun x σ h => G x (σ 0) (σ 1) (σ 4) (σ 5) h) = n6 k G (σ 0) (σ 1) (σ 4) (σ 5) h := (kseq (a := c11) (b := c7) rfl (fun σ h => n7_eq k G σ h)).trans (by kernel_rfl)
def l5 {R : Type} (k : Nat) (G : KT2 R) : Nat → GV → GV → GV → GV → Heap → Option R
  | 0, _, _, _, _, _ => none
  | r + 1, v0, v1, v4, v5, h => n6 k (fun x v0 v1 v4 v5 h => kx x (l5 k G r v0 v1 v4 v5 h) (G x v1 v4 h)) v0 v1 v4 v5 h
theorem l5_eq {R : Type} (k : Nat) (G : KT2 R) : ∀ (r : Nat) (σ : GS) (h : Heap), kloop (fun σ h K => KC k 31 c6 σ h K) r σ h (fun x σ h => G x (σ 1) (σ 4) h) = l5 k G r (σ 0) (σ 1) (σ 4) (σ 5) h
  | 0, _, _ => rfl
  | r + 1, σ, h => (kloop_eq (fun σ h => l5_eq k G r σ h)).trans (n6_eq k (fun x v0 v1 v4 v5 h => kx x (l5 k G r v0 v1 v4 v5 h) (G x v1 v4 h)) σ h)
@[simp] def n5 (G : KT2 R) (v0 v1 v4 v5 : GV) (h : Heap) : Option R := l5 k G k v0 v1 v4 v5 h
theorem n5_eq (G : KT2 R) (σ : GS) (h : Heap) : KC k 31 c5 σ h (fun x σ h => G x (σ 1) (σ 4) h) = n5 k G (σ 0) (σ 1) (σ 4) (σ 5) h := (kloopc_eq (a := c6) rfl).trans (l5_eq k G k σ h)
@[simp] def n4 (G : KT2 R) (v0 v1 v4 v5 : GV) (h : Heap) : Option R := n5 k (fun x v1 v4 h => kb 0 x fun x => G x v1 v4 h) v0 v1 v4 v5 h
theorem n4_eq (G : KT2 R) (σ : GS) (h : Heap) : KC k 31 c4 σ h (fun x σ h => G x (σ 1) (σ 4) h) = n4 k G (σ 0) (σ 1) (σ 4) (σ 5) h := (kblock_eq (a := c5) rfl).trans (n5_eq k (fun x v1 v4 h => kb 0 x fun x => G x v1 v4 h) σ h)
noncomputable def c12 : Code := cL c3
@[simp] def n3 (G : KT2 R) (v0 v1 v4 : GV) (h : Heap) : Option R := n4 k G v0 v1 v4 (.int .i64 0) h
theorem n3_eq (G : KT2 R) (σ : GS) (h : Heap) : KC k 31 c3 σ h (fun x σ h => G x (σ 1) (σ 4) h) = n3 k G (σ 0) (σ 1) (σ 4) h := (kseq (a := c12) (b := c4) rfl (fun σ h => n4_eq k G σ h)).trans (by kernel_rfl)
@[simp] def n1 (G : KT1 R) (v0 v1 v4 : GV) (h : Heap) : Option R := n3 k (fun x v1 v4 h => kx x (n2 k G v1 h) (G x v4 h)) v0 v1 v4 h
theorem n1_eq (G : KT1 R) (σ : GS) (h : Heap) : KC k 31 c1 σ h (fun x σ h => G x (σ 4) h) = n1 k G (σ 0) (σ 1) (σ 4) h := (kseq (b := c2) rfl (fun σ h => n2_eq k G σ h)).trans (n3_eq k (fun x v1 v4 h => kx x (n2 k G v1 h) (G x v4 h)) σ h)
noncomputable def c13 : Code := cL c0
@[simp] def n0 (G : KT1 R) (v0 v1 : GV) (h : Heap) : Option R := n1 k G v0 v1 (.int .i64 0) h
theorem n0_eq (G : KT1 R) (σ : GS) (h : Heap) : KC k 31 c0 σ h (fun x σ h => G x (σ 4) h) = n0 k G (σ 0) (σ 1) h := (kseq (a := c13) (b := c1) rfl (fun σ h => n1_eq k G σ h)).trans (by kernel_rfl)
def run {R : Type} (k : Nat) (a0 : GV) (a1 : GV) (h : Heap) (fin : GV → Heap → Option R) : Option R := n0 k (fun x v4 h => kend x (fin v4 h)) a0 a1 h
theorem run_eq {R : Type} (k : Nat) (a0 : GV) (a1 : GV) (h : Heap) (fin : GV → Heap → Option R) : kfun PP cfg NN HH k fn.laws_heldServerS [a0, a1] h fin = run k a0 a1 h fin := (kfun_eq (nt := 31) (c := c0) (show PP.funcs[fn.laws_heldServerS]? = some Try.f113 by kernel_rfl) (by kernel_rfl) (by kernel_rfl) (fun x σ h => by cases x <;> kernel_rfl)).trans (n0_eq k (fun x v4 h => kend x (fin v4 h)) _ h)
theorem gives {k : Nat} {a0 : GV} {a1 : GV} {v : GV} (e : run k a0 a1 [] finN = some v) : NN fn.laws_heldServerS [a0, a1] = some v := nω_of (by kernel_rfl) ((run_eq k a0 a1 [] finN).trans e)
end S.laws_heldServerS
/-! laws_eqStringSS -/
namespace S.laws_eqStringSS
noncomputable def c0 : Code := bodyOf Try.f108
noncomputable def c1 : Code := cR c0
noncomputable def c2 : Code := cR c1
noncomputable def c3 : Code := cR c2
@[simp] def n3 {R : Type} (k : Nat) (G : KT1 R) (h : Heap) : Option R := G .ret (.bool true) h
theorem n3_eq (G : KT1 R) (σ : GS) (h : Heap) : KC k 27 c3 σ h (fun x σ h => G x (σ 4) h) = n3 k G h := by kernel_rfl
noncomputable def c4 : Code := cL c2
noncomputable def c5 : Code := cR c4
noncomputable def c6 : Code := cL c5
noncomputable def c7 : Code := cL c6
noncomputable def c8 : Code := cR c7
noncomputable def c9 : Code := cR c8
@[simp] def n9 {R : Type} (k : Nat) (G : KT4 R) (v0 v1 v4 v5 : GV) (h : Heap) : Option R := (kbin .add v5 (.int .i64 1)).bind fun v16 => G .nrm v0 v1 v4 v16 h
theorem n9_eq (G : KT4 R) (σ : GS) (h : Heap) : KC k 27 c9 σ h (fun x σ h => G x (σ 0) (σ 1) (σ 4) (σ 5) h) = n9 k G (σ 0) (σ 1) (σ 4) (σ 5) h := by kernel_rfl
noncomputable def c10 : Code := cL c8
noncomputable def c11 : Code := cL c10
@[simp] def n11 {R : Type} (k : Nat) (G : KT4 R) (v0 v1 v4 v5 : GV) (h : Heap) : Option R := (kia 1 v0 v5).bind fun v19 => (kload1 h v19).bind fun v20 => (kia 1 v1 v5).bind fun v23 => (kload1 h v23).bind fun v24 => (kN NN fn.laws_eqStringS [v20, v24] h).bind fun v25 => (kun .not v25).bind fun v26 => kcond v26 (G .ret v0 v1 (.bool false) v5 h) (G .nrm v0 v1 v4 v5 h)
theorem n11_eq (G : KT4 R) (σ : GS) (h : Heap) : KC k 27 c11 σ h (fun x σ h => G x (σ 0) (σ 1) (σ 4) (σ 5) h) = n11 k G (σ 0) (σ 1) (σ 4) (σ 5) h := by kernel_rfl
@[simp] def n10 (G : KT4 R) (v0 v1 v4 v5 : GV) (h : Heap) : Option R := n11 k (fun x v0 v1 v4 v5 h => kb 1 x fun x => G x v0 v1 v4 v5 h) v0 v1 v4 v5 h
theorem n10_eq (G : KT4 R) (σ : GS) (h : Heap) : KC k 27 c10 σ h (fun x σ h => G x (σ 0) (σ 1) (σ 4) (σ 5) h) = n10 k G (σ 0) (σ 1) (σ 4) (σ 5) h := (kblock_eq (a := c11) rfl).trans (n11_eq k (fun x v0 v1 v4 v5 h => kb 1 x fun x => G x v0 v1 v4 v5 h) σ h)
@[simp] def n8 (G : KT4 R) (v0 v1 v4 v5 : GV) (h : Heap) : Option R := n10 k (fun x v0 v1 v4 v5 h => kx x (n9 k G v0 v1 v4 v5 h) (G x v0 v1 v4 v5 h)) v0 v1 v4 v5 h
theorem n8_eq (G : KT4 R) (σ : GS) (h : Heap) : KC k 27 c8 σ h (fun x σ h => G x (σ 0) (σ 1) (σ 4) (σ 5) h) = n8 k G (σ 0) (σ 1) (σ 4) (σ 5) h := (kseq (b := c9) rfl (fun σ h => n9_eq k G σ h)).trans (n10_eq k (fun x v0 v1 v4 v5 h => kx x (n9 k G v0 v1 v4 v5 h) (G x v0 v1 v4 v5 h)) σ h)
noncomputable def c12 : Code := cL c7
@[simp] def n7 (G : KT4 R) (v0 v1 v4 v5 : GV) (h : Heap) : Option R := (klen v0).bind fun v13 => (kbin .lss v5 v13).bind fun v14 => kcond v14 (n8 k G v0 v1 v4 v5 h) (G (.ext 0) v0 v1 v4 v5 h)
theorem n7_eq (G : KT4 R) (σ : GS) (h : Heap) : KC k 27 c7 σ h (fun x σ h => G x (σ 0) (σ 1) (σ 4) (σ 5) h) = n7 k G (σ 0) (σ 1) (σ 4) (σ 5) h := (kseq (a := c12) (b := c8) rfl (fun σ h => n8_eq k G σ h)).trans (by kernel_rfl)
def l6 {R : Type} (k : Nat) (G : KT1 R) : Nat → GV → GV → GV → GV → Heap → Option R
  | 0, _, _, _, _, _ => none
  | r + 1, v0, v1, v4, v5, h => n7 k (fun x v0 v1 v4 v5 h => kx x (l6 k G r v0 v1 v4 v5 h) (G x v4 h)) v0 v1 v4 v5 h
theorem l6_eq {R : Type} (k : Nat) (G : KT1 R) : ∀ (r : Nat) (σ : GS) (h : Heap), kloop (fun σ h K => KC k 27 c7 σ h K) r σ h (fun x σ h => G x (σ 4) h) = l6 k G r (σ 0) (σ 1) (σ 4) (σ 5) h
  | 0, _, _ => rfl
  | r + 1, σ, h => (kloop_eq (fun σ h => l6_eq k G r σ h)).trans (n7_eq k (fun x v0 v1 v4 v5 h => kx x (l6 k G r v0 v1 v4 v5 h) (G x v4 h)) σ h)
@[simp] def n6 (G : KT1 R) (v0 v1 v4 v5 : GV) (h : Heap) : Option R := l6 k G k v0 v1 v4 v5 h
theorem n6_eq (G : KT1 R) (σ : GS) (h : Heap) : KC k 27 c6 σ h (fun x σ h => G x (σ 4) h) = n6 k G (σ 0) (σ 1) (σ 4) (σ 5) h := (kloopc_eq (a := c7) rfl).trans (l6_eq k G k σ h)
@[simp] def n5 (G : KT1 R) (v0 v1 v4 v5 : GV) (h : Heap) : Option R := n6 k (fun x v4 h => kb 0 x fun x => G x v4 h) v0 v1 v4 v5 h
theorem n5_eq (G : KT1 R) (σ : GS) (h : Heap) : KC k 27 c5 σ h (fun x σ h => G x (σ 4) h) = n5 k G (σ 0) (σ 1) (σ 4) (σ 5) h := (kblock_eq (a := c6) rfl).trans (n6_eq k (fun x v4 h => kb 0 x fun x => G x v4 h) σ h)
noncomputable def c13 : Code := cL c4
@[simp] def n4 (G : KT1 R) (v0 v1 v4 : GV) (h : Heap) : Option R := n5 k G v0 v1 v4 (.int .i64 0) h
theorem n4_eq (G : KT1 R) (σ : GS) (h : Heap) : KC k 27 c4 σ h (fun x σ h => G x (σ 4) h) = n4 k G (σ 0) (σ 1) (σ 4) h := (kseq (a := c13) (b := c5) rfl (fun σ h => n5_eq k G σ h)).trans (by kernel_rfl)
@[simp] def n2 (G : KT1 R) (v0 v1 v4 : GV) (h : Heap) : Option R := n4 k (fun x v4 h => kx x (n3 k G h) (G x v4 h)) v0 v1 v4 h
theorem n2_eq (G : KT1 R) (σ : GS) (h : Heap) : KC k 27 c2 σ h (fun x σ h => G x (σ 4) h) = n2 k G (σ 0) (σ 1) (σ 4) h := (kseq (b := c3) rfl (fun σ h => n3_eq k G σ h)).trans (n4_eq k (fun x v4 h => kx x (n3 k G h) (G x v4 h)) σ h)
noncomputable def c14 : Code := cL c1
@[simp] def n1 (G : KT1 R) (v0 v1 v4 : GV) (h : Heap) : Option R := (klen v0).bind fun v7 => (klen v1).bind fun v9 => (kbin .neq v7 v9).bind fun v10 => kcond v10 (G .ret (.bool false) h) (n2 k G v0 v1 v4 h)
theorem n1_eq (G : KT1 R) (σ : GS) (h : Heap) : KC k 27 c1 σ h (fun x σ h => G x (σ 4) h) = n1 k G (σ 0) (σ 1) (σ 4) h := (kseq (a := c14) (b := c2) rfl (fun σ h => n2_eq k G σ h)).trans (by kernel_rfl)
noncomputable def c15 : Code := cL c0
@[simp] def n0 (G : KT1 R) (v0 v1 : GV) (h : Heap) : Option R := n1 k G v0 v1 (.bool false) h
theorem n0_eq (G : KT1 R) (σ : GS) (h : Heap) : KC k 27 c0 σ h (fun x σ h => G x (σ 4) h) = n0 k G (σ 0) (σ 1) h := (kseq (a := c15) (b := c1) rfl (fun σ h => n1_eq k G σ h)).trans (by kernel_rfl)
def run {R : Type} (k : Nat) (a0 : GV) (a1 : GV) (h : Heap) (fin : GV → Heap → Option R) : Option R := n0 k (fun x v4 h => kend x (fin v4 h)) a0 a1 h
theorem run_eq {R : Type} (k : Nat) (a0 : GV) (a1 : GV) (h : Heap) (fin : GV → Heap → Option R) : kfun PP cfg NN HH k fn.laws_eqStringSS [a0, a1] h fin = run k a0 a1 h fin := (kfun_eq (nt := 27) (c := c0) (show PP.funcs[fn.laws_eqStringSS]? = some Try.f108 by kernel_rfl) (by kernel_rfl) (by kernel_rfl) (fun x σ h => by cases x <;> kernel_rfl)).trans (n0_eq k (fun x v4 h => kend x (fin v4 h)) _ h)
theorem gives {k : Nat} {a0 : GV} {a1 : GV} {v : GV} (e : run k a0 a1 [] finN = some v) : NN fn.laws_eqStringSS [a0, a1] = some v := nω_of (by kernel_rfl) ((run_eq k a0 a1 [] finN).trans e)
end S.laws_eqStringSS
/-! laws_markStringSS -/
namespace S.laws_markStringSS
noncomputable def c0 : Code := bodyOf Try.f111
noncomputable def c1 : Code := cR c0
noncomputable def c2 : Code := cR c1
@[simp] def n2 {R : Type} (k : Nat) (G : KT1 R) (v1 : GV) (h : Heap) : Option R := G .ret v1 h
theorem n2_eq (G : KT1 R) (σ : GS) (h : Heap) : KC k 19 c2 σ h (fun x σ h => G x (σ 4) h) = n2 k G (σ 1) h := by kernel_rfl
noncomputable def c3 : Code := cL c1
noncomputable def c4 : Code := cR c3
noncomputable def c5 : Code := cL c4
noncomputable def c6 : Code := cL c5
noncomputable def c7 : Code := cR c6
noncomputable def c8 : Code := cR c7
@[simp] def n8 {R : Type} (k : Nat) (G : KT4 R) (v0 v1 v4 v5 : GV) (h : Heap) : Option R := (kbin .add v5 (.int .i64 1)).bind fun v11 => G .nrm v0 v1 v4 v11 h
theorem n8_eq (G : KT4 R) (σ : GS) (h : Heap) : KC k 19 c8 σ h (fun x σ h => G x (σ 0) (σ 1) (σ 4) (σ 5) h) = n8 k G (σ 0) (σ 1) (σ 4) (σ 5) h := by kernel_rfl
noncomputable def c9 : Code := cL c7
noncomputable def c10 : Code := cL c9
@[simp] def n10 {R : Type} (k : Nat) (G : KT4 R) (v0 v1 v4 v5 : GV) (h : Heap) : Option R := (kia 1 v0 v5).bind fun v14 => (kload1 h v14).bind fun v15 => (HH fn.laws_markStringS [v15, v1] h).bind fun r => kr r fun v17 h => G .nrm v0 v17 v4 v5 h
theorem n10_eq (G : KT4 R) (σ : GS) (h : Heap) : KC k 19 c10 σ h (fun x σ h => G x (σ 0) (σ 1) (σ 4) (σ 5) h) = n10 k G (σ 0) (σ 1) (σ 4) (σ 5) h := by kernel_rfl
@[simp] def n9 (G : KT4 R) (v0 v1 v4 v5 : GV) (h : Heap) : Option R := n10 k (fun x v0 v1 v4 v5 h => kb 1 x fun x => G x v0 v1 v4 v5 h) v0 v1 v4 v5 h
theorem n9_eq (G : KT4 R) (σ : GS) (h : Heap) : KC k 19 c9 σ h (fun x σ h => G x (σ 0) (σ 1) (σ 4) (σ 5) h) = n9 k G (σ 0) (σ 1) (σ 4) (σ 5) h := (kblock_eq (a := c10) rfl).trans (n10_eq k (fun x v0 v1 v4 v5 h => kb 1 x fun x => G x v0 v1 v4 v5 h) σ h)
@[simp] def n7 (G : KT4 R) (v0 v1 v4 v5 : GV) (h : Heap) : Option R := n9 k (fun x v0 v1 v4 v5 h => kx x (n8 k G v0 v1 v4 v5 h) (G x v0 v1 v4 v5 h)) v0 v1 v4 v5 h
theorem n7_eq (G : KT4 R) (σ : GS) (h : Heap) : KC k 19 c7 σ h (fun x σ h => G x (σ 0) (σ 1) (σ 4) (σ 5) h) = n7 k G (σ 0) (σ 1) (σ 4) (σ 5) h := (kseq (b := c8) rfl (fun σ h => n8_eq k G σ h)).trans (n9_eq k (fun x v0 v1 v4 v5 h => kx x (n8 k G v0 v1 v4 v5 h) (G x v0 v1 v4 v5 h)) σ h)
noncomputable def c11 : Code := cL c6
@[simp] def n6 (G : KT4 R) (v0 v1 v4 v5 : GV) (h : Heap) : Option R := (klen v0).bind fun v8 => (kbin .lss v5 v8).bind fun v9 => kcond v9 (n7 k G v0 v1 v4 v5 h) (G (.ext 0) v0 v1 v4 v5 h)
theorem n6_eq (G : KT4 R) (σ : GS) (h : Heap) : KC k 19 c6 σ h (fun x σ h => G x (σ 0) (σ 1) (σ 4) (σ 5) h) = n6 k G (σ 0) (σ 1) (σ 4) (σ 5) h := (kseq (a := c11) (b := c7) rfl (fun σ h => n7_eq k G σ h)).trans (by kernel_rfl)
def l5 {R : Type} (k : Nat) (G : KT2 R) : Nat → GV → GV → GV → GV → Heap → Option R
  | 0, _, _, _, _, _ => none
  | r + 1, v0, v1, v4, v5, h => n6 k (fun x v0 v1 v4 v5 h => kx x (l5 k G r v0 v1 v4 v5 h) (G x v1 v4 h)) v0 v1 v4 v5 h
theorem l5_eq {R : Type} (k : Nat) (G : KT2 R) : ∀ (r : Nat) (σ : GS) (h : Heap), kloop (fun σ h K => KC k 19 c6 σ h K) r σ h (fun x σ h => G x (σ 1) (σ 4) h) = l5 k G r (σ 0) (σ 1) (σ 4) (σ 5) h
  | 0, _, _ => rfl
  | r + 1, σ, h => (kloop_eq (fun σ h => l5_eq k G r σ h)).trans (n6_eq k (fun x v0 v1 v4 v5 h => kx x (l5 k G r v0 v1 v4 v5 h) (G x v1 v4 h)) σ h)
@[simp] def n5 (G : KT2 R) (v0 v1 v4 v5 : GV) (h : Heap) : Option R := l5 k G k v0 v1 v4 v5 h
theorem n5_eq (G : KT2 R) (σ : GS) (h : Heap) : KC k 19 c5 σ h (fun x σ h => G x (σ 1) (σ 4) h) = n5 k G (σ 0) (σ 1) (σ 4) (σ 5) h := (kloopc_eq (a := c6) rfl).trans (l5_eq k G k σ h)
@[simp] def n4 (G : KT2 R) (v0 v1 v4 v5 : GV) (h : Heap) : Option R := n5 k (fun x v1 v4 h => kb 0 x fun x => G x v1 v4 h) v0 v1 v4 v5 h
theorem n4_eq (G : KT2 R) (σ : GS) (h : Heap) : KC k 19 c4 σ h (fun x σ h => G x (σ 1) (σ 4) h) = n4 k G (σ 0) (σ 1) (σ 4) (σ 5) h := (kblock_eq (a := c5) rfl).trans (n5_eq k (fun x v1 v4 h => kb 0 x fun x => G x v1 v4 h) σ h)
noncomputable def c12 : Code := cL c3
@[simp] def n3 (G : KT2 R) (v0 v1 v4 : GV) (h : Heap) : Option R := n4 k G v0 v1 v4 (.int .i64 0) h
theorem n3_eq (G : KT2 R) (σ : GS) (h : Heap) : KC k 19 c3 σ h (fun x σ h => G x (σ 1) (σ 4) h) = n3 k G (σ 0) (σ 1) (σ 4) h := (kseq (a := c12) (b := c4) rfl (fun σ h => n4_eq k G σ h)).trans (by kernel_rfl)
@[simp] def n1 (G : KT1 R) (v0 v1 v4 : GV) (h : Heap) : Option R := n3 k (fun x v1 v4 h => kx x (n2 k G v1 h) (G x v4 h)) v0 v1 v4 h
theorem n1_eq (G : KT1 R) (σ : GS) (h : Heap) : KC k 19 c1 σ h (fun x σ h => G x (σ 4) h) = n1 k G (σ 0) (σ 1) (σ 4) h := (kseq (b := c2) rfl (fun σ h => n2_eq k G σ h)).trans (n3_eq k (fun x v1 v4 h => kx x (n2 k G v1 h) (G x v4 h)) σ h)
noncomputable def c13 : Code := cL c0
@[simp] def n0 (G : KT1 R) (v0 v1 : GV) (h : Heap) : Option R := n1 k G v0 v1 (.int .i64 0) h
theorem n0_eq (G : KT1 R) (σ : GS) (h : Heap) : KC k 19 c0 σ h (fun x σ h => G x (σ 4) h) = n0 k G (σ 0) (σ 1) h := (kseq (a := c13) (b := c1) rfl (fun σ h => n1_eq k G σ h)).trans (by kernel_rfl)
def run {R : Type} (k : Nat) (a0 : GV) (a1 : GV) (h : Heap) (fin : GV → Heap → Option R) : Option R := n0 k (fun x v4 h => kend x (fin v4 h)) a0 a1 h
theorem run_eq {R : Type} (k : Nat) (a0 : GV) (a1 : GV) (h : Heap) (fin : GV → Heap → Option R) : kfun PP cfg NN HH k fn.laws_markStringSS [a0, a1] h fin = run k a0 a1 h fin := (kfun_eq (nt := 19) (c := c0) (show PP.funcs[fn.laws_markStringSS]? = some Try.f111 by kernel_rfl) (by kernel_rfl) (by kernel_rfl) (fun x σ h => by cases x <;> kernel_rfl)).trans (n0_eq k (fun x v4 h => kend x (fin v4 h)) _ h)
theorem gives {k : Nat} {a0 : GV} {a1 : GV} {h : Heap} {r : GV × Heap} (e : run k a0 a1 h finH = some r) : HH fn.laws_markStringSS [a0, a1] h = some r := kω_of ((run_eq k a0 a1 h finH).trans e)
end S.laws_markStringSS
/-! laws_heldStringSS -/
namespace S.laws_heldStringSS
noncomputable def c0 : Code := bodyOf Try.f114
noncomputable def c1 : Code := cR c0
noncomputable def c2 : Code := cR c1
@[simp] def n2 {R : Type} (k : Nat) (G : KT1 R) (v1 : GV) (h : Heap) : Option R := G .ret v1 h
theorem n2_eq (G : KT1 R) (σ : GS) (h : Heap) : KC k 21 c2 σ h (fun x σ h => G x (σ 4) h) = n2 k G (σ 1) h := by kernel_rfl
noncomputable def c3 : Code := cL c1
noncomputable def c4 : Code := cR c3
noncomputable def c5 : Code := cL c4
noncomputable def c6 : Code := cL c5
noncomputable def c7 : Code := cR c6
noncomputable def c8 : Code := cR c7
@[simp] def n8 {R : Type} (k : Nat) (G : KT4 R) (v0 v1 v4 v5 : GV) (h : Heap) : Option R := (kbin .add v5 (.int .i64 1)).bind fun v11 => G .nrm v0 v1 v4 v11 h
theorem n8_eq (G : KT4 R) (σ : GS) (h : Heap) : KC k 21 c8 σ h (fun x σ h => G x (σ 0) (σ 1) (σ 4) (σ 5) h) = n8 k G (σ 0) (σ 1) (σ 4) (σ 5) h := by kernel_rfl
noncomputable def c9 : Code := cL c7
noncomputable def c10 : Code := cL c9
@[simp] def n10 {R : Type} (k : Nat) (G : KT4 R) (v0 v1 v4 v5 : GV) (h : Heap) : Option R := (kia 1 v0 v5).bind fun v14 => (kload1 h v14).bind fun v15 => (kN NN fn.laws_heldStringS [v15, v1] h).bind fun v17 => (kbin .lss v17 (.int .i64 0)).bind fun v19 => kcond v19 (G .ret v0 v17 (.int .i64 (-1)) v5 h) (G .nrm v0 v17 v4 v5 h)
theorem n10_eq (G : KT4 R) (σ : GS) (h : Heap) : KC k 21 c10 σ h (fun x σ h => G x (σ 0) (σ 1) (σ 4) (σ 5) h) = n10 k G (σ 0) (σ 1) (σ 4) (σ 5) h := by kernel_rfl
@[simp] def n9 (G : KT4 R) (v0 v1 v4 v5 : GV) (h : Heap) : Option R := n10 k (fun x v0 v1 v4 v5 h => kb 1 x fun x => G x v0 v1 v4 v5 h) v0 v1 v4 v5 h
theorem n9_eq (G : KT4 R) (σ : GS) (h : Heap) : KC k 21 c9 σ h (fun x σ h => G x (σ 0) (σ 1) (σ 4) (σ 5) h) = n9 k G (σ 0) (σ 1) (σ 4) (σ 5) h := (kblock_eq (a := c10) rfl).trans (n10_eq k (fun x v0 v1 v4 v5 h => kb 1 x fun x => G x v0 v1 v4 v5 h) σ h)
@[simp] def n7 (G : KT4 R) (v0 v1 v4 v5 : GV) (h : Heap) : Option R := n9 k (fun x v0 v1 v4 v5 h => kx x (n8 k G v0 v1 v4 v5 h) (G x v0 v1 v4 v5 h)) v0 v1 v4 v5 h
theorem n7_eq (G : KT4 R) (σ : GS) (h : Heap) : KC k 21 c7 σ h (fun x σ h => G x (σ 0) (σ 1) (σ 4) (σ 5) h) = n7 k G (σ 0) (σ 1) (σ 4) (σ 5) h := (kseq (b := c8) rfl (fun σ h => n8_eq k G σ h)).trans (n9_eq k (fun x v0 v1 v4 v5 h => kx x (n8 k G v0 v1 v4 v5 h) (G x v0 v1 v4 v5 h)) σ h)
noncomputable def c11 : Code := cL c6
@[simp] def n6 (G : KT4 R) (v0 v1 v4 v5 : GV) (h : Heap) : Option R := (klen v0).bind fun v8 => (kbin .lss v5 v8).bind fun v9 => kcond v9 (n7 k G v0 v1 v4 v5 h) (G (.ext 0) v0 v1 v4 v5 h)
theorem n6_eq (G : KT4 R) (σ : GS) (h : Heap) : KC k 21 c6 σ h (fun x σ h => G x (σ 0) (σ 1) (σ 4) (σ 5) h) = n6 k G (σ 0) (σ 1) (σ 4) (σ 5) h := (kseq (a := c11) (b := c7) rfl (fun σ h => n7_eq k G σ h)).trans (by kernel_rfl)
def l5 {R : Type} (k : Nat) (G : KT2 R) : Nat → GV → GV → GV → GV → Heap → Option R
  | 0, _, _, _, _, _ => none
  | r + 1, v0, v1, v4, v5, h => n6 k (fun x v0 v1 v4 v5 h => kx x (l5 k G r v0 v1 v4 v5 h) (G x v1 v4 h)) v0 v1 v4 v5 h
theorem l5_eq {R : Type} (k : Nat) (G : KT2 R) : ∀ (r : Nat) (σ : GS) (h : Heap), kloop (fun σ h K => KC k 21 c6 σ h K) r σ h (fun x σ h => G x (σ 1) (σ 4) h) = l5 k G r (σ 0) (σ 1) (σ 4) (σ 5) h
  | 0, _, _ => rfl
  | r + 1, σ, h => (kloop_eq (fun σ h => l5_eq k G r σ h)).trans (n6_eq k (fun x v0 v1 v4 v5 h => kx x (l5 k G r v0 v1 v4 v5 h) (G x v1 v4 h)) σ h)
@[simp] def n5 (G : KT2 R) (v0 v1 v4 v5 : GV) (h : Heap) : Option R := l5 k G k v0 v1 v4 v5 h
theorem n5_eq (G : KT2 R) (σ : GS) (h : Heap) : KC k 21 c5 σ h (fun x σ h => G x (σ 1) (σ 4) h) = n5 k G (σ 0) (σ 1) (σ 4) (σ 5) h := (kloopc_eq (a := c6) rfl).trans (l5_eq k G k σ h)
@[simp] def n4 (G : KT2 R) (v0 v1 v4 v5 : GV) (h : Heap) : Option R := n5 k (fun x v1 v4 h => kb 0 x fun x => G x v1 v4 h) v0 v1 v4 v5 h
theorem n4_eq (G : KT2 R) (σ : GS) (h : Heap) : KC k 21 c4 σ h (fun x σ h => G x (σ 1) (σ 4) h) = n4 k G (σ 0) (σ 1) (σ 4) (σ 5) h := (kblock_eq (a := c5) rfl).trans (n5_eq k (fun x v1 v4 h => kb 0 x fun x => G x v1 v4 h) σ h)
noncomputable def c12 : Code := cL c3
@[simp] def n3 (G : KT2 R) (v0 v1 v4 : GV) (h : Heap) : Option R := n4 k G v0 v1 v4 (.int .i64 0) h
theorem n3_eq (G : KT2 R) (σ : GS) (h : Heap) : KC k 21 c3 σ h (fun x σ h => G x (σ 1) (σ 4) h) = n3 k G (σ 0) (σ 1) (σ 4) h := (kseq (a := c12) (b := c4) rfl (fun σ h => n4_eq k G σ h)).trans (by kernel_rfl)
@[simp] def n1 (G : KT1 R) (v0 v1 v4 : GV) (h : Heap) : Option R := n3 k (fun x v1 v4 h => kx x (n2 k G v1 h) (G x v4 h)) v0 v1 v4 h
theorem n1_eq (G : KT1 R) (σ : GS) (h : Heap) : KC k 21 c1 σ h (fun x σ h => G x (σ 4) h) = n1 k G (σ 0) (σ 1) (σ 4) h := (kseq (b := c2) rfl (fun σ h => n2_eq k G σ h)).trans (n3_eq k (fun x v1 v4 h => kx x (n2 k G v1 h) (G x v4 h)) σ h)
noncomputable def c13 : Code := cL c0
@[simp] def n0 (G : KT1 R) (v0 v1 : GV) (h : Heap) : Option R := n1 k G v0 v1 (.int .i64 0) h
theorem n0_eq (G : KT1 R) (σ : GS) (h : Heap) : KC k 21 c0 σ h (fun x σ h => G x (σ 4) h) = n0 k G (σ 0) (σ 1) h := (kseq (a := c13) (b := c1) rfl (fun σ h => n1_eq k G σ h)).trans (by kernel_rfl)
def run {R : Type} (k : Nat) (a0 : GV) (a1 : GV) (h : Heap) (fin : GV → Heap → Option R) : Option R := n0 k (fun x v4 h => kend x (fin v4 h)) a0 a1 h
theorem run_eq {R : Type} (k : Nat) (a0 : GV) (a1 : GV) (h : Heap) (fin : GV → Heap → Option R) : kfun PP cfg NN HH k fn.laws_heldStringSS [a0, a1] h fin = run k a0 a1 h fin := (kfun_eq (nt := 21) (c := c0) (show PP.funcs[fn.laws_heldStringSS]? = some Try.f114 by kernel_rfl) (by kernel_rfl) (by kernel_rfl) (fun x σ h => by cases x <;> kernel_rfl)).trans (n0_eq k (fun x v4 h => kend x (fin v4 h)) _ h)
theorem gives {k : Nat} {a0 : GV} {a1 : GV} {v : GV} (e : run k a0 a1 [] finN = some v) : NN fn.laws_heldStringSS [a0, a1] = some v := nω_of (by kernel_rfl) ((run_eq k a0 a1 [] finN).trans e)
end S.laws_heldStringSS
/-! laws_eqInt64SS -/
namespace S.laws_eqInt64SS
noncomputable def c0 : Code := bodyOf Try.f109
noncomputable def c1 : Code := cR c0
noncomputable def c2 : Code := cR c1
noncomputable def c3 : Code := cR c2
@[simp] def n3 {R : Type} (k : Nat) (G : KT1 R) (h : Heap) : Option R := G .ret (.bool true) h
theorem n3_eq (G : KT1 R) (σ : GS) (h : Heap) : KC k 27 c3 σ h (fun x σ h => G x (σ 4) h) = n3 k G h := by kernel_rfl
noncomputable def c4 : Code := cL c2
noncomputable def c5 : Code := cR c4
noncomputable def c6 : Code := cL c5
noncomputable def c7 : Code := cL c6
noncomputable def c8 : Code := cR c7
noncomputable def c9 : Code := cR c8
@[simp] def n9 {R : Type} (k : Nat) (G : KT4 R) (v0 v1 v4 v5 : GV) (h : Heap) : Option R := (kbin .add v5 (.int .i64 1)).bind fun v16 => G .nrm v0 v1 v4 v16 h
theorem n9_eq (G : KT4 R) (σ : GS) (h : Heap) : KC k 27 c9 σ h (fun x σ h => G x (σ 0) (σ 1) (σ 4) (σ 5) h) = n9 k G (σ 0) (σ 1) (σ 4) (σ 5) h := by kernel_rfl
noncomputable def c10 : Code := cL c8
noncomputable def c11 : Code := cL c10
@[simp] def n11 {R : Type} (k : Nat) (G : KT4 R) (v0 v1 v4 v5 : GV) (h : Heap) : Option R := (kia 1 v0 v5).bind fun v19 => (kload1 h v19).bind fun v20 => (kia 1 v1 v5).bind fun v23 => (kload1 h v23).bind fun v24 => (kN NN fn.laws_eqInt64S [v20, v24] h).bind fun v25 => (kun .not v25).bind fun v26 => kcond v26 (G .ret v0 v1 (.bool false) v5 h) (G .nrm v0 v1 v4 v5 h)
theorem n11_eq (G : KT4 R) (σ : GS) (h : Heap) : KC k 27 c11 σ h (fun x σ h => G x (σ 0) (σ 1) (σ 4) (σ 5) h) = n11 k G (σ 0) (σ 1) (σ 4) (σ 5) h := by kernel_rfl
@[simp] def n10 (G : KT4 R) (v0 v1 v4 v5 : GV) (h : Heap) : Option R := n11 k (fun x v0 v1 v4 v5 h => kb 1 x fun x => G x v0 v1 v4 v5 h) v0 v1 v4 v5 h
theorem n10_eq (G : KT4 R) (σ : GS) (h : Heap) : KC k 27 c10 σ h (fun x σ h => G x (σ 0) (σ 1) (σ 4) (σ 5) h) = n10 k G (σ 0) (σ 1) (σ 4) (σ 5) h := (kblock_eq (a := c11) rfl).trans (n11_eq k (fun x v0 v1 v4 v5 h => kb 1 x fun x => G x v0 v1 v4 v5 h) σ h)
@[simp] def n8 (G : KT4 R) (v0 v1 v4 v5 : GV) (h : Heap) : Option R := n10 k (fun x v0 v1 v4 v5 h => kx x (n9 k G v0 v1 v4 v5 h) (G x v0 v1 v4 v5 h)) v0 v1 v4 v5 h
theorem n8_eq (G : KT4 R) (σ : GS) (h : Heap) : KC k 27 c8 σ h (fun x σ h => G x (σ 0) (σ 1) (σ 4) (σ 5) h) = n8 k G (σ 0) (σ 1) (σ 4) (σ 5) h := (kseq (b := c9) rfl (fun σ h => n9_eq k G σ h)).trans (n10_eq k (fun x v0 v1 v4 v5 h => kx x (n9 k G v0 v1 v4 v5 h) (G x v0 v1 v4 v5 h)) σ h)
noncomputable def c12 : Code := cL c7
@[simp] def n7 (G : KT4 R) (v0 v1 v4 v5 : GV) (h : Heap) : Option R := (klen v0).bind fun v13 => (kbin .lss v5 v13).bind fun v14 => kcond v14 (n8 k G v0 v1 v4 v5 h) (G (.ext 0) v0 v1 v4 v5 h)
theorem n7_eq (G : KT4 R) (σ : GS) (h : Heap) : KC k 27 c7 σ h (fun x σ h => G x (σ 0) (σ 1) (σ 4) (σ 5) h) = n7 k G (σ 0) (σ 1) (σ 4) (σ 5) h := (kseq (a := c12) (b := c8) rfl (fun σ h => n8_eq k G σ h)).trans (by kernel_rfl)
def l6 {R : Type} (k : Nat) (G : KT1 R) : Nat → GV → GV → GV → GV → Heap → Option R
  | 0, _, _, _, _, _ => none
  | r + 1, v0, v1, v4, v5, h => n7 k (fun x v0 v1 v4 v5 h => kx x (l6 k G r v0 v1 v4 v5 h) (G x v4 h)) v0 v1 v4 v5 h
theorem l6_eq {R : Type} (k : Nat) (G : KT1 R) : ∀ (r : Nat) (σ : GS) (h : Heap), kloop (fun σ h K => KC k 27 c7 σ h K) r σ h (fun x σ h => G x (σ 4) h) = l6 k G r (σ 0) (σ 1) (σ 4) (σ 5) h
  | 0, _, _ => rfl
  | r + 1, σ, h => (kloop_eq (fun σ h => l6_eq k G r σ h)).trans (n7_eq k (fun x v0 v1 v4 v5 h => kx x (l6 k G r v0 v1 v4 v5 h) (G x v4 h)) σ h)
@[simp] def n6 (G : KT1 R) (v0 v1 v4 v5 : GV) (h : Heap) : Option R := l6 k G k v0 v1 v4 v5 h
theorem n6_eq (G : KT1 R) (σ : GS) (h : Heap) : KC k 27 c6 σ h (fun x σ h => G x (σ 4) h) = n6 k G (σ 0) (σ 1) (σ 4) (σ 5) h := (kloopc_eq (a := c7) rfl).trans (l6_eq k G k σ h)
@[simp] def n5 (G : KT1 R) (v0 v1 v4 v5 : GV) (h : Heap) : Option R := n6 k (fun x v4 h => kb 0 x fun x => G x v4 h) v0 v1 v4 v5 h
theorem n5_eq (G : KT1 R) (σ : GS) (h : Heap) : KC k 27 c5 σ h (fun x σ h => G x (σ 4) h) = n5 k G (σ 0) (σ 1) (σ 4) (σ 5) h := (kblock_eq (a := c6) rfl).trans (n6_eq k (fun x v4 h => kb 0 x fun x => G x v4 h) σ h)
noncomputable def c13 : Code := cL c4
@[simp] def n4 (G : KT1 R) (v0 v1 v4 : GV) (h : Heap) : Option R := n5 k G v0 v1 v4 (.int .i64 0) h
theorem n4_eq (G : KT1 R) (σ : GS) (h : Heap) : KC k 27 c4 σ h (fun x σ h => G x (σ 4) h) = n4 k G (σ 0) (σ 1) (σ 4) h := (kseq (a := c13) (b := c5) rfl (fun σ h => n5_eq k G σ h)).trans (by kernel_rfl)
@[simp] def n2 (G : KT1 R) (v0 v1 v4 : GV) (h : Heap) : Option R := n4 k (fun x v4 h => kx x (n3 k G h) (G x v4 h)) v0 v1 v4 h
theorem n2_eq (G : KT1 R) (σ : GS) (h : Heap) : KC k 27 c2 σ h (fun x σ h => G x (σ 4) h) = n2 k G (σ 0) (σ 1) (σ 4) h := (kseq (b := c3) rfl (fun σ h => n3_eq k G σ h)).trans (n4_eq k (fun x v4 h => kx x (n3 k G h) (G x v4 h)) σ h)
noncomputable def c14 : Code := cL c1
@[simp] def n1 (G : KT1 R) (v0 v1 v4 : GV) (h : Heap) : Option R := (klen v0).bind fun v7 => (klen v1).bind fun v9 => (kbin .neq v7 v9).bind fun v10 => kcond v10 (G .ret (.bool false) h) (n2 k G v0 v1 v4 h)
theorem n1_eq (G : KT1 R) (σ : GS) (h : Heap) : KC k 27 c1 σ h (fun x σ h => G x (σ 4) h) = n1 k G (σ 0) (σ 1) (σ 4) h := (kseq (a := c14) (b := c2) rfl (fun σ h => n2_eq k G σ h)).trans (by kernel_rfl)
noncomputable def c15 : Code := cL c0
@[simp] def n0 (G : KT1 R) (v0 v1 : GV) (h : Heap) : Option R := n1 k G v0 v1 (.bool false) h
theorem n0_eq (G : KT1 R) (σ : GS) (h : Heap) : KC k 27 c0 σ h (fun x σ h => G x (σ 4) h) = n0 k G (σ 0) (σ 1) h := (kseq (a := c15) (b := c1) rfl (fun σ h => n1_eq k G σ h)).trans (by kernel_rfl)
def run {R : Type} (k : Nat) (a0 : GV) (a1 : GV) (h : Heap) (fin : GV → Heap → Option R) : Option R := n0 k (fun x v4 h => kend x (fin v4 h)) a0 a1 h
theorem run_eq {R : Type} (k : Nat) (a0 : GV) (a1 : GV) (h : Heap) (fin : GV → Heap → Option R) : kfun PP cfg NN HH k fn.laws_eqInt64SS [a0, a1] h fin = run k a0 a1 h fin := (kfun_eq (nt := 27) (c := c0) (show PP.funcs[fn.laws_eqInt64SS]? = some Try.f109 by kernel_rfl) (by kernel_rfl) (by kernel_rfl) (fun x σ h => by cases x <;> kernel_rfl)).trans (n0_eq k (fun x v4 h => kend x (fin v4 h)) _ h)
theorem gives {k : Nat} {a0 : GV} {a1 : GV} {v : GV} (e : run k a0 a1 [] finN = some v) : NN fn.laws_eqInt64SS [a0, a1] = some v := nω_of (by kernel_rfl) ((run_eq k a0 a1 [] finN).trans e)
end S.laws_eqInt64SS
/-! laws_markInt64SS -/
namespace S.laws_markInt64SS
noncomputable def c0 : Code := bodyOf Try.f112
noncomputable def c1 : Code := cR c0
noncomputable def c2 : Code := cR c1
@[simp] def n2 {R : Type} (k : Nat) (G : KT1 R) (v1 : GV) (h : Heap) : Option R := G .ret v1 h
theorem n2_eq (G : KT1 R) (σ : GS) (h : Heap) : KC k 19 c2 σ h (fun x σ h => G x (σ 4) h) = n2 k G (σ 1) h := by kernel_rfl
noncomputable def c3 : Code := cL c1
noncomputable def c4 : Code := cR c3
noncomputable def c5 : Code := cL c4
noncomputable def c6 : Code := cL c5
noncomputable def c7 : Code := cR c6
noncomputable def c8 : Code := cR c7
@[simp] def n8 {R : Type} (k : Nat) (G : KT4 R) (v0 v1 v4 v5 : GV) (h : Heap) : Option R := (kbin .add v5 (.int .i64 1)).bind fun v11 => G .nrm v0 v1 v4 v11 h
theorem n8_eq (G : KT4 R) (σ : GS) (h : Heap) : KC k 19 c8 σ h (fun x σ h => G x (σ 0) (σ 1) (σ 4) (σ 5) h) = n8 k G (σ 0) (σ 1) (σ 4) (σ 5) h := by kernel_rfl
noncomputable def c9 : Code := cL c7
noncomputable def c10 : Code := cL c9
@[simp] def n10 {R : Type} (k : Nat) (G : KT4 R) (v0 v1 v4 v5 : GV) (h : Heap) : Option R := (kia 1 v0 v5).bind fun v14 => (kload1 h v14).bind fun v15 => (HH fn.laws_markInt64S [v15, v1] h).bind fun r => kr r fun v17 h => G .nrm v0 v17 v4 v5 h
theorem n10_eq (G : KT4 R) (σ : GS) (h : Heap) : KC k 19 c10 σ h (fun x σ h => G x (σ 0) (σ 1) (σ 4) (σ 5) h) = n10 k G (σ 0) (σ 1) (σ 4) (σ 5) h := by kernel_rfl
@[simp] def n9 (G : KT4 R) (v0 v1 v4 v5 : GV) (h : Heap) : Option R := n10 k (fun x v0 v1 v4 v5 h => kb 1 x fun x => G x v0 v1 v4 v5 h) v0 v1 v4 v5 h
theorem n9_eq (G : KT4 R) (σ : GS) (h : Heap) : KC k 19 c9 σ h (fun x σ h => G x (σ 0) (σ 1) (σ 4) (σ 5) h) = n9 k G (σ 0) (σ 1) (σ 4) (σ 5) h := (kblock_eq (a := c10) rfl).trans (n10_eq k (fun x v0 v1 v4 v5 h => kb 1 x fun x => G x v0 v1 v4 v5 h) σ h)
@[simp] def n7 (G : KT4 R) (v0 v1 v4 v5 : GV) (h : Heap) : Option R := n9 k (fun x v0 v1 v4 v5 h => kx x (n8 k G v0 v1 v4 v5 h) (G x v0 v1 v4 v5 h)) v0 v1 v4 v5 h
theorem n7_eq (G : KT4 R) (σ : GS) (h : Heap) : KC k 19 c7 σ h (fun x σ h => G x (σ 0) (σ 1) (σ 4) (σ 5) h) = n7 k G (σ 0) (σ 1) (σ 4) (σ 5) h := (kseq (b := c8) rfl (fun σ h => n8_eq k G σ h)).trans (n9_eq k (fun x v0 v1 v4 v5 h => kx x (n8 k G v0 v1 v4 v5 h) (G x v0 v1 v4 v5 h)) σ h)
noncomputable def c11 : Code := cL c6
@[simp] def n6 (G : KT4 R) (v0 v1 v4 v5 : GV) (h : Heap) : Option R := (klen v0).bind fun v8 => (kbin .lss v5 v8).bind fun v9 => kcond v9 (n7 k G v0 v1 v4 v5 h) (G (.ext 0) v0 v1 v4 v5 h)
theorem n6_eq (G : KT4 R) (σ : GS) (h : Heap) : KC k 19 c6 σ h (fun x σ h => G x (σ 0) (σ 1) (σ 4) (σ 5) h) = n6 k G (σ 0) (σ 1) (σ 4) (σ 5) h := (kseq (a := c11) (b := c7) rfl (fun σ h => n7_eq k G σ h)).trans (by kernel_rfl)
def l5 {R : Type} (k : Nat) (G : KT2 R) : Nat → GV → GV → GV → GV → Heap → Option R
  | 0, _, _, _, _, _ => none
  | r + 1, v0, v1, v4, v5, h => n6 k (fun x v0 v1 v4 v5 h => kx x (l5 k G r v0 v1 v4 v5 h) (G x v1 v4 h)) v0 v1 v4 v5 h
theorem l5_eq {R : Type} (k : Nat) (G : KT2 R) : ∀ (r : Nat) (σ : GS) (h : Heap), kloop (fun σ h K => KC k 19 c6 σ h K) r σ h (fun x σ h => G x (σ 1) (σ 4) h) = l5 k G r (σ 0) (σ 1) (σ 4) (σ 5) h
  | 0, _, _ => rfl
  | r + 1, σ, h => (kloop_eq (fun σ h => l5_eq k G r σ h)).trans (n6_eq k (fun x v0 v1 v4 v5 h => kx x (l5 k G r v0 v1 v4 v5 h) (G x v1 v4 h)) σ h)
@[simp] def n5 (G : KT2 R) (v0 v1 v4 v5 : GV) (h : Heap) : Option R := l5 k G k v0 v1 v4 v5 h
theorem n5_eq (G : KT2 R) (σ : GS) (h : Heap) : KC k 19 c5 σ h (fun x σ h => G x (σ 1) (σ 4) h) = n5 k G (σ 0) (σ 1) (σ 4) (σ 5) h := (kloopc_eq (a := c6) rfl).trans (l5_eq k G k σ h)
@[simp] def n4 (G : KT2 R) (v0 v1 v4 v5 : GV) (h : Heap) : Option R := n5 k (fun x v1 v4 h => kb 0 x fun x => G x v1 v4 h) v0 v1 v4 v5 h
theorem n4_eq (G : KT2 R) (σ : GS) (h : Heap) : KC k 19 c4 σ h (fun x σ h => G x (σ 1) (σ 4) h) = n4 k G (σ 0) (σ 1) (σ 4) (σ 5) h := (kblock_eq (a := c5) rfl).trans (n5_eq k (fun x v1 v4 h => kb 0 x fun x => G x v1 v4 h) σ h)
noncomputable def c12 : Code := cL c3
@[simp] def n3 (G : KT2 R) (v0 v1 v4 : GV) (h : Heap) : Option R := n4 k G v0 v1 v4 (.int .i64 0) h
theorem n3_eq (G : KT2 R) (σ : GS) (h : Heap) : KC k 19 c3 σ h (fun x σ h => G x (σ 1) (σ 4) h) = n3 k G (σ 0) (σ 1) (σ 4) h := (kseq (a := c12) (b := c4) rfl (fun σ h => n4_eq k G σ h)).trans (by kernel_rfl)
@[simp] def n1 (G : KT1 R) (v0 v1 v4 : GV) (h : Heap) : Option R := n3 k (fun x v1 v4 h => kx x (n2 k G v1 h) (G x v4 h)) v0 v1 v4 h
theorem n1_eq (G : KT1 R) (σ : GS) (h : Heap) : KC k 19 c1 σ h (fun x σ h => G x (σ 4) h) = n1 k G (σ 0) (σ 1) (σ 4) h := (kseq (b := c2) rfl (fun σ h => n2_eq k G σ h)).trans (n3_eq k (fun x v1 v4 h => kx x (n2 k G v1 h) (G x v4 h)) σ h)
noncomputable def c13 : Code := cL c0
@[simp] def n0 (G : KT1 R) (v0 v1 : GV) (h : Heap) : Option R := n1 k G v0 v1 (.int .i64 0) h
theorem n0_eq (G : KT1 R) (σ : GS) (h : Heap) : KC k 19 c0 σ h (fun x σ h => G x (σ 4) h) = n0 k G (σ 0) (σ 1) h := (kseq (a := c13) (b := c1) rfl (fun σ h => n1_eq k G σ h)).trans (by kernel_rfl)
def run {R : Type} (k : Nat) (a0 : GV) (a1 : GV) (h : Heap) (fin : GV → Heap → Option R) : Option R := n0 k (fun x v4 h => kend x (fin v4 h)) a0 a1 h
theorem run_eq {R : Type} (k : Nat) (a0 : GV) (a1 : GV) (h : Heap) (fin : GV → Heap → Option R) : kfun PP cfg NN HH k fn.laws_markInt64SS [a0, a1] h fin = run k a0 a1 h fin := (kfun_eq (nt := 19) (c := c0) (show PP.funcs[fn.laws_markInt64SS]? = some Try.f112 by kernel_rfl) (by kernel_rfl) (by kernel_rfl) (fun x σ h => by cases x <;> kernel_rfl)).trans (n0_eq k (fun x v4 h => kend x (fin v4 h)) _ h)
theorem gives {k : Nat} {a0 : GV} {a1 : GV} {h : Heap} {r : GV × Heap} (e : run k a0 a1 h finH = some r) : HH fn.laws_markInt64SS [a0, a1] h = some r := kω_of ((run_eq k a0 a1 h finH).trans e)
end S.laws_markInt64SS
/-! laws_heldInt64SS -/
namespace S.laws_heldInt64SS
noncomputable def c0 : Code := bodyOf Try.f115
noncomputable def c1 : Code := cR c0
noncomputable def c2 : Code := cR c1
@[simp] def n2 {R : Type} (k : Nat) (G : KT1 R) (v1 : GV) (h : Heap) : Option R := G .ret v1 h
theorem n2_eq (G : KT1 R) (σ : GS) (h : Heap) : KC k 21 c2 σ h (fun x σ h => G x (σ 4) h) = n2 k G (σ 1) h := by kernel_rfl
noncomputable def c3 : Code := cL c1
noncomputable def c4 : Code := cR c3
noncomputable def c5 : Code := cL c4
noncomputable def c6 : Code := cL c5
noncomputable def c7 : Code := cR c6
noncomputable def c8 : Code := cR c7
@[simp] def n8 {R : Type} (k : Nat) (G : KT4 R) (v0 v1 v4 v5 : GV) (h : Heap) : Option R := (kbin .add v5 (.int .i64 1)).bind fun v11 => G .nrm v0 v1 v4 v11 h
theorem n8_eq (G : KT4 R) (σ : GS) (h : Heap) : KC k 21 c8 σ h (fun x σ h => G x (σ 0) (σ 1) (σ 4) (σ 5) h) = n8 k G (σ 0) (σ 1) (σ 4) (σ 5) h := by kernel_rfl
noncomputable def c9 : Code := cL c7
noncomputable def c10 : Code := cL c9
@[simp] def n10 {R : Type} (k : Nat) (G : KT4 R) (v0 v1 v4 v5 : GV) (h : Heap) : Option R := (kia 1 v0 v5).bind fun v14 => (kload1 h v14).bind fun v15 => (kN NN fn.laws_heldInt64S [v15, v1] h).bind fun v17 => (kbin .lss v17 (.int .i64 0)).bind fun v19 => kcond v19 (G .ret v0 v17 (.int .i64 (-1)) v5 h) (G .nrm v0 v17 v4 v5 h)
theorem n10_eq (G : KT4 R) (σ : GS) (h : Heap) : KC k 21 c10 σ h (fun x σ h => G x (σ 0) (σ 1) (σ 4) (σ 5) h) = n10 k G (σ 0) (σ 1) (σ 4) (σ 5) h := by kernel_rfl
@[simp] def n9 (G : KT4 R) (v0 v1 v4 v5 : GV) (h : Heap) : Option R := n10 k (fun x v0 v1 v4 v5 h => kb 1 x fun x => G x v0 v1 v4 v5 h) v0 v1 v4 v5 h
theorem n9_eq (G : KT4 R) (σ : GS) (h : Heap) : KC k 21 c9 σ h (fun x σ h => G x (σ 0) (σ 1) (σ 4) (σ 5) h) = n9 k G (σ 0) (σ 1) (σ 4) (σ 5) h := (kblock_eq (a := c10) rfl).trans (n10_eq k (fun x v0 v1 v4 v5 h => kb 1 x fun x => G x v0 v1 v4 v5 h) σ h)
@[simp] def n7 (G : KT4 R) (v0 v1 v4 v5 : GV) (h : Heap) : Option R := n9 k (fun x v0 v1 v4 v5 h => kx x (n8 k G v0 v1 v4 v5 h) (G x v0 v1 v4 v5 h)) v0 v1 v4 v5 h
theorem n7_eq (G : KT4 R) (σ : GS) (h : Heap) : KC k 21 c7 σ h (fun x σ h => G x (σ 0) (σ 1) (σ 4) (σ 5) h) = n7 k G (σ 0) (σ 1) (σ 4) (σ 5) h := (kseq (b := c8) rfl (fun σ h => n8_eq k G σ h)).trans (n9_eq k (fun x v0 v1 v4 v5 h => kx x (n8 k G v0 v1 v4 v5 h) (G x v0 v1 v4 v5 h)) σ h)
noncomputable def c11 : Code := cL c6
@[simp] def n6 (G : KT4 R) (v0 v1 v4 v5 : GV) (h : Heap) : Option R := (klen v0).bind fun v8 => (kbin .lss v5 v8).bind fun v9 => kcond v9 (n7 k G v0 v1 v4 v5 h) (G (.ext 0) v0 v1 v4 v5 h)
theorem n6_eq (G : KT4 R) (σ : GS) (h : Heap) : KC k 21 c6 σ h (fun x σ h => G x (σ 0) (σ 1) (σ 4) (σ 5) h) = n6 k G (σ 0) (σ 1) (σ 4) (σ 5) h := (kseq (a := c11) (b := c7) rfl (fun σ h => n7_eq k G σ h)).trans (by kernel_rfl)
def l5 {R : Type} (k : Nat) (G : KT2 R) : Nat → GV → GV → GV → GV → Heap → Option R
  | 0, _, _, _, _, _ => none
  | r + 1, v0, v1, v4, v5, h => n6 k (fun x v0 v1 v4 v5 h => kx x (l5 k G r v0 v1 v4 v5 h) (G x v1 v4 h)) v0 v1 v4 v5 h
theorem l5_eq {R : Type} (k : Nat) (G : KT2 R) : ∀ (r : Nat) (σ : GS) (h : Heap), kloop (fun σ h K => KC k 21 c6 σ h K) r σ h (fun x σ h => G x (σ 1) (σ 4) h) = l5 k G r (σ 0) (σ 1) (σ 4) (σ 5) h
  | 0, _, _ => rfl
  | r + 1, σ, h => (kloop_eq (fun σ h => l5_eq k G r σ h)).trans (n6_eq k (fun x v0 v1 v4 v5 h => kx x (l5 k G r v0 v1 v4 v5 h) (G x v1 v4 h)) σ h)
@[simp] def n5 (G : KT2 R) (v0 v1 v4 v5 : GV) (h : Heap) : Option R := l5 k G k v0 v1 v4 v5 h
theorem n5_eq (G : KT2 R) (σ : GS) (h : Heap) : KC k 21 c5 σ h (fun x σ h => G x (σ 1) (σ 4) h) = n5 k G (σ 0) (σ 1) (σ 4) (σ 5) h := (kloopc_eq (a := c6) rfl).trans (l5_eq k G k σ h)
@[simp] def n4 (G : KT2 R) (v0 v1 v4 v5 : GV) (h : Heap) : Option R := n5 k (fun x v1 v4 h => kb 0 x fun x => G x v1 v4 h) v0 v1 v4 v5 h
theorem n4_eq (G : KT2 R) (σ : GS) (h : Heap) : KC k 21 c4 σ h (fun x σ h => G x (σ 1) (σ 4) h) = n4 k G (σ 0) (σ 1) (σ 4) (σ 5) h := (kblock_eq (a := c5) rfl).trans (n5_eq k (fun x v1 v4 h => kb 0 x fun x => G x v1 v4 h) σ h)
noncomputable def c12 : Code := cL c3
@[simp] def n3 (G : KT2 R) (v0 v1 v4 : GV) (h : Heap) : Option R := n4 k G v0 v1 v4 (.int .i64 0) h
theorem n3_eq (G : KT2 R) (σ : GS) (h : Heap) : KC k 21 c3 σ h (fun x σ h => G x (σ 1) (σ 4) h) = n3 k G (σ 0) (σ 1) (σ 4) h := (kseq (a := c12) (b := c4) rfl (fun σ h => n4_eq k G σ h)).trans (by kernel_rfl)
@[simp] def n1 (G : KT1 R) (v0 v1 v4 : GV) (h : Heap) : Option R := n3 k (fun x v1 v4 h => kx x (n2 k G v1 h) (G x v4 h)) v0 v1 v4 h
theorem n1_eq (G : KT1 R) (σ : GS) (h : Heap) : KC k 21 c1 σ h (fun x σ h => G x (σ 4) h) = n1 k G (σ 0) (σ 1) (σ 4) h := (kseq (b := c2) rfl (fun σ h => n2_eq k G σ h)).trans (n3_eq k (fun x v1 v4 h => kx x (n2 k G v1 h) (G x v4 h)) σ h)
noncomputable def c13 : Code := cL c0
@[simp] def n0 (G : KT1 R) (v0 v1 : GV) (h : Heap) : Option R := n1 k G v0 v1 (.int .i64 0) h
theorem n0_eq (G : KT1 R) (σ : GS) (h : Heap) : KC k 21 c0 σ h (fun x σ h => G x (σ 4) h) = n0 k G (σ 0) (σ 1) h := (kseq (a := c13) (b := c1) rfl (fun σ h => n1_eq k G σ h)).trans (by kernel_rfl)
def run {R : Type} (k : Nat) (a0 : GV) (a1 : GV) (h : Heap) (fin : GV → Heap → Option R) : Option R := n0 k (fun x v4 h => kend x (fin v4 h)) a0 a1 h
theorem run_eq {R : Type} (k : Nat) (a0 : GV) (a1 : GV) (h : Heap) (fin : GV → Heap → Option R) : kfun PP cfg NN HH k fn.laws_heldInt64SS [a0, a1] h fin = run k a0 a1 h fin := (kfun_eq (nt := 21) (c := c0) (show PP.funcs[fn.laws_heldInt64SS]? = some Try.f115 by kernel_rfl) (by kernel_rfl) (by kernel_rfl) (fun x σ h => by cases x <;> kernel_rfl)).trans (n0_eq k (fun x v4 h => kend x (fin v4 h)) _ h)
theorem gives {k : Nat} {a0 : GV} {a1 : GV} {v : GV} (e : run k a0 a1 [] finN = some v) : NN fn.laws_heldInt64SS [a0, a1] = some v := nω_of (by kernel_rfl) ((run_eq k a0 a1 [] finN).trans e)
end S.laws_heldInt64SS
/-! laws_eqStringS -/
namespace S.laws_eqStringS
noncomputable def c0 : Code := bodyOf Try.f155
noncomputable def c1 : Code := cR c0
noncomputable def c2 : Code := cR c1
noncomputable def c3 : Code := cR c2
@[simp] def n3 {R : Type} (k : Nat) (G : KT1 R) (h : Heap) : Option R := G .ret (.bool true) h
theorem n3_eq (G : KT1 R) (σ : GS) (h : Heap) : KC k 26 c3 σ h (fun x σ h => G x (σ 4) h) = n3 k G h := by kernel_rfl
noncomputable def c4 : Code := cL c2
noncomputable def c5 : Code := cR c4
noncomputable def c6 : Code := cL c5
noncomputable def c7 : Code := cL c6
noncomputable def c8 : Code := cR c7
noncomputable def c9 : Code := cR c8
@[simp] def n9 {R : Type} (k : Nat) (G : KT4 R) (v0 v1 v4 v5 : GV) (h : Heap) : Option R := (kbin .add v5 (.int .i64 1)).bind fun v16 => G .nrm v0 v1 v4 v16 h
theorem n9_eq (G : KT4 R) (σ : GS) (h : Heap) : KC k 26 c9 σ h (fun x σ h => G x (σ 0) (σ 1) (σ 4) (σ 5) h) = n9 k G (σ 0) (σ 1) (σ 4) (σ 5) h := by kernel_rfl
noncomputable def c10 : Code := cL c8
noncomputable def c11 : Code := cL c10
@[simp] def n11 {R : Type} (k : Nat) (G : KT4 R) (v0 v1 v4 v5 : GV) (h : Heap) : Option R := (kia 1 v0 v5).bind fun v19 => (kload1 h v19).bind fun v20 => (kia 1 v1 v5).bind fun v23 => (kload1 h v23).bind fun v24 => (kbin .neq v20 v24).bind fun v25 => kcond v25 (G .ret v0 v1 (.bool false) v5 h) (G .nrm v0 v1 v4 v5 h)
theorem n11_eq (G : KT4 R) (σ : GS) (h : Heap) : KC k 26 c11 σ h (fun x σ h => G x (σ 0) (σ 1) (σ 4) (σ 5) h) = n11 k G (σ 0) (σ 1) (σ 4) (σ 5) h := by kernel_rfl
@[simp] def n10 (G : KT4 R) (v0 v1 v4 v5 : GV) (h : Heap) : Option R := n11 k (fun x v0 v1 v4 v5 h => kb 1 x fun x => G x v0 v1 v4 v5 h) v0 v1 v4 v5 h
theorem n10_eq (G : KT4 R) (σ : GS) (h : Heap) : KC k 26 c10 σ h (fun x σ h => G x (σ 0) (σ 1) (σ 4) (σ 5) h) = n10 k G (σ 0) (σ 1) (σ 4) (σ 5) h := (kblock_eq (a := c11) rfl).trans (n11_eq k (fun x v0 v1 v4 v5 h => kb 1 x fun x => G x v0 v1 v4 v5 h) σ h)
@[simp] def n8 (G : KT4 R) (v0 v1 v4 v5 : GV) (h : Heap) : Option R := n10 k (fun x v0 v1 v4 v5 h => kx x (n9 k G v0 v1 v4 v5 h) (G x v0 v1 v4 v5 h)) v0 v1 v4 v5 h
theorem n8_eq (G : KT4 R) (σ : GS) (h : Heap) : KC k 26 c8 σ h (fun x σ h => G x (σ 0) (σ 1) (σ 4) (σ 5) h) = n8 k G (σ 0) (σ 1) (σ 4) (σ 5) h := (kseq (b := c9) rfl (fun σ h => n9_eq k G σ h)).trans (n10_eq k (fun x v0 v1 v4 v5 h => kx x (n9 k G v0 v1 v4 v5 h) (G x v0 v1 v4 v5 h)) σ h)
noncomputable def c12 : Code := cL c7
@[simp] def n7 (G : KT4 R) (v0 v1 v4 v5 : GV) (h : Heap) : Option R := (klen v0).bind fun v13 => (kbin .lss v5 v13).bind fun v14 => kcond v14 (n8 k G v0 v1 v4 v5 h) (G (.ext 0) v0 v1 v4 v5 h)
theorem n7_eq (G : KT4 R) (σ : GS) (h : Heap) : KC k 26 c7 σ h (fun x σ h => G x (σ 0) (σ 1) (σ 4) (σ 5) h) = n7 k G (σ 0) (σ 1) (σ 4) (σ 5) h := (kseq (a := c12) (b := c8) rfl (fun σ h => n8_eq k G σ h)).trans (by kernel_rfl)
def l6 {R : Type} (k : Nat) (G : KT1 R) : Nat → GV → GV → GV → GV → Heap → Option R
  | 0, _, _, _, _, _ => none
  | r + 1, v0, v1, v4, v5, h => n7 k (fun x v0 v1 v4 v5 h => kx x (l6 k G r v0 v1 v4 v5 h) (G x v4 h)) v0 v1 v4 v5 h
theorem l6_eq {R : Type} (k : Nat) (G : KT1 R) : ∀ (r : Nat) (σ : GS) (h : Heap), kloop (fun σ h K => KC k 26 c7 σ h K) r σ h (fun x σ h => G x (σ 4) h) = l6 k G r (σ 0) (σ 1) (σ 4) (σ 5) h
  | 0, _, _ => rfl
  | r + 1, σ, h => (kloop_eq (fun σ h => l6_eq k G r σ h)).trans (n7_eq k (fun x v0 v1 v4 v5 h => kx x (l6 k G r v0 v1 v4 v5 h) (G x v4 h)) σ h)
@[simp] def n6 (G : KT1 R) (v0 v1 v4 v5 : GV) (h : Heap) : Option R := l6 k G k v0 v1 v4 v5 h
theorem n6_eq (G : KT1 R) (σ : GS) (h : Heap) : KC k 26 c6 σ h (fun x σ h => G x (σ 4) h) = n6 k G (σ 0) (σ 1) (σ 4) (σ 5) h := (kloopc_eq (a := c7) rfl).trans (l6_eq k G k σ h)
@[simp] def n5 (G : KT1 R) (v0 v1 v4 v5 : GV) (h : Heap) : Option R := n6 k (fun x v4 h => kb 0 x fun x => G x v4 h) v0 v1 v4 v5 h
theorem n5_eq (G : KT1 R) (σ : GS) (h : Heap) : KC k 26 c5 σ h (fun x σ h => G x (σ 4) h) = n5 k G (σ 0) (σ 1) (σ 4) (σ 5) h := (kblock_eq (a := c6) rfl).trans (n6_eq k (fun x v4 h => kb 0 x fun x => G x v4 h) σ h)
noncomputable def c13 : Code := cL c4
@[simp] def n4 (G : KT1 R) (v0 v1 v4 : GV) (h : Heap) : Option R := n5 k G v0 v1 v4 (.int .i64 0) h
theorem n4_eq (G : KT1 R) (σ : GS) (h : Heap) : KC k 26 c4 σ h (fun x σ h => G x (σ 4) h) = n4 k G (σ 0) (σ 1) (σ 4) h := (kseq (a := c13) (b := c5) rfl (fun σ h => n5_eq k G σ h)).trans (by kernel_rfl)
@[simp] def n2 (G : KT1 R) (v0 v1 v4 : GV) (h : Heap) : Option R := n4 k (fun x v4 h => kx x (n3 k G h) (G x v4 h)) v0 v1 v4 h
theorem n2_eq (G : KT1 R) (σ : GS) (h : Heap) : KC k 26 c2 σ h (fun x σ h => G x (σ 4) h) = n2 k G (σ 0) (σ 1) (σ 4) h := (kseq (b := c3) rfl (fun σ h => n3_eq k G σ h)).trans (n4_eq k (fun x v4 h => kx x (n3 k G h) (G x v4 h)) σ h)
noncomputable def c14 : Code := cL c1
@[simp] def n1 (G : KT1 R) (v0 v1 v4 : GV) (h : Heap) : Option R := (klen v0).bind fun v7 => (klen v1).bind fun v9 => (kbin .neq v7 v9).bind fun v10 => kcond v10 (G .ret (.bool false) h) (n2 k G v0 v1 v4 h)
theorem n1_eq (G : KT1 R) (σ : GS) (h : Heap) : KC k 26 c1 σ h (fun x σ h => G x (σ 4) h) = n1 k G (σ 0) (σ 1) (σ 4) h := (kseq (a := c14) (b := c2) rfl (fun σ h => n2_eq k G σ h)).trans (by kernel_rfl)
noncomputable def c15 : Code := cL c0
@[simp] def n0 (G : KT1 R) (v0 v1 : GV) (h : Heap) : Option R := n1 k G v0 v1 (.bool false) h
theorem n0_eq (G : KT1 R) (σ : GS) (h : Heap) : KC k 26 c0 σ h (fun x σ h => G x (σ 4) h) = n0 k G (σ 0) (σ 1) h := (kseq (a := c15) (b := c1) rfl (fun σ h => n1_eq k G σ h)).trans (by kernel_rfl)
def run {R : Type} (k : Nat) (a0 : GV) (a1 : GV) (h : Heap) (fin : GV → Heap → Option R) : Option R := n0 k (fun x v4 h => kend x (fin v4 h)) a0 a1 h
theorem run_eq {R : Type} (k : Nat) (a0 : GV) (a1 : GV) (h : Heap) (fin : GV → Heap → Option R) : kfun PP cfg NN HH k fn.laws_eqStringS [a0, a1] h fin = run k a0 a1 h fin := (kfun_eq (nt := 26) (c := c0) (show PP.funcs[fn.laws_eqStringS]? = some Try.f155 by kernel_rfl) (by kernel_rfl) (by kernel_rfl) (fun x σ h => by cases x <;> kernel_rfl)).trans (n0_eq k (fun x v4 h => kend x (fin v4 h)) _ h)
theorem gives {k : Nat} {a0 : GV} {a1 : GV} {v : GV} (e : run k a0 a1 [] finN = some v) : NN fn.laws_eqStringS [a0, a1] = some v := nω_of (by kernel_rfl) ((run_eq k a0 a1 [] finN).trans e)
end S.laws_eqStringS
/-! laws_markStringS -/
namespace S.laws_markStringS
noncomputable def c0 : Code := bodyOf Try.f158
noncomputable def c1 : Code := cR c0
noncomputable def c2 : Code := cR c1
@[simp] def n2 {R : Type} (k : Nat) (G : KT1 R) (v1 : GV) (h : Heap) : Option R := G .ret v1 h
theorem n2_eq (G : KT1 R) (σ : GS) (h : Heap) : KC k 20 c2 σ h (fun x σ h => G x (σ 4) h) = n2 k G (σ 1) h := by kernel_rfl
noncomputable def c3 : Code := cL c1
noncomputable def c4 : Code := cR c3
noncomputable def c5 : Code := cL c4
noncomputable def c6 : Code := cL c5
noncomputable def c7 : Code := cR c6
noncomputable def c8 : Code := cR c7
@[simp] def n8 {R : Type} (k : Nat) (G : KT4 R) (v0 v1 v4 v5 : GV) (h : Heap) : Option R := (kbin .add v5 (.int .i64 1)).bind fun v11 => G .nrm v0 v1 v4 v11 h
theorem n8_eq (G : KT4 R) (σ : GS) (h : Heap) : KC k 20 c8 σ h (fun x σ h => G x (σ 0) (σ 1) (σ 4) (σ 5) h) = n8 k G (σ 0) (σ 1) (σ 4) (σ 5) h := by kernel_rfl
noncomputable def c9 : Code := cL c7
noncomputable def c10 : Code := cL c9
@[simp] def n10 {R : Type} (k : Nat) (G : KT4 R) (v0 v1 v4 v5 : GV) (h : Heap) : Option R := (kN NN fn.laws_markText [v1] h).bind fun v15 => (kia 1 v0 v5).bind fun v16 => (kstore 1 h v16 v15).bind fun h => (kbin .add v1 (.int .i64 1)).bind fun v18 => G .nrm v0 v18 v4 v5 h
theorem n10_eq (G : KT4 R) (σ : GS) (h : Heap) : KC k 20 c10 σ h (fun x σ h => G x (σ 0) (σ 1) (σ 4) (σ 5) h) = n10 k G (σ 0) (σ 1) (σ 4) (σ 5) h := by kernel_rfl
@[simp] def n9 (G : KT4 R) (v0 v1 v4 v5 : GV) (h : Heap) : Option R := n10 k (fun x v0 v1 v4 v5 h => kb 1 x fun x => G x v0 v1 v4 v5 h) v0 v1 v4 v5 h
theorem n9_eq (G : KT4 R) (σ : GS) (h : Heap) : KC k 20 c9 σ h (fun x σ h => G x (σ 0) (σ 1) (σ 4) (σ 5) h) = n9 k G (σ 0) (σ 1) (σ 4) (σ 5) h := (kblock_eq (a := c10) rfl).trans (n10_eq k (fun x v0 v1 v4 v5 h => kb 1 x fun x => G x v0 v1 v4 v5 h) σ h)
@[simp] def n7 (G : KT4 R) (v0 v1 v4 v5 : GV) (h : Heap) : Option R := n9 k (fun x v0 v1 v4 v5 h => kx x (n8 k G v0 v1 v4 v5 h) (G x v0 v1 v4 v5 h)) v0 v1 v4 v5 h
theorem n7_eq (G : KT4 R) (σ : GS) (h : Heap) : KC k 20 c7 σ h (fun x σ h => G x (σ 0) (σ 1) (σ 4) (σ 5) h) = n7 k G (σ 0) (σ 1) (σ 4) (σ 5) h := (kseq (b := c8) rfl (fun σ h => n8_eq k G σ h)).trans (n9_eq k (fun x v0 v1 v4 v5 h => kx x (n8 k G v0 v1 v4 v5 h) (G x v0 v1 v4 v5 h)) σ h)
noncomputable def c11 : Code := cL c6
@[simp] def n6 (G : KT4 R) (v0 v1 v4 v5 : GV) (h : Heap) : Option R := (klen v0).bind fun v8 => (kbin .lss v5 v8).bind fun v9 => kcond v9 (n7 k G v0 v1 v4 v5 h) (G (.ext 0) v0 v1 v4 v5 h)
theorem n6_eq (G : KT4 R) (σ : GS) (h : Heap) : KC k 20 c6 σ h (fun x σ h => G x (σ 0) (σ 1) (σ 4) (σ 5) h) = n6 k G (σ 0) (σ 1) (σ 4) (σ 5) h := (kseq (a := c11) (b := c7) rfl (fun σ h => n7_eq k G σ h)).trans (by kernel_rfl)
def l5 {R : Type} (k : Nat) (G : KT2 R) : Nat → GV → GV → GV → GV → Heap → Option R
  | 0, _, _, _, _, _ => none
  | r + 1, v0, v1, v4, v5, h => n6 k (fun x v0 v1 v4 v5 h => kx x (l5 k G r v0 v1 v4 v5 h) (G x v1 v4 h)) v0 v1 v4 v5 h
theorem l5_eq {R : Type} (k : Nat) (G : KT2 R) : ∀ (r : Nat) (σ : GS) (h : Heap), kloop (fun σ h K => KC k 20 c6 σ h K) r σ h (fun x σ h => G x (σ 1) (σ 4) h) = l5 k G r (σ 0) (σ 1) (σ 4) (σ 5) h
  | 0, _, _ => rfl
  | r + 1, σ, h => (kloop_eq (fun σ h => l5_eq k G r σ h)).trans (n6_eq k (fun x v0 v1 v4 v5 h => kx x (l5 k G r v0 v1 v4 v5 h) (G x v1 v4 h)) σ h)
@[simp] def n5 (G : KT2 R) (v0 v1 v4 v5 : GV) (h : Heap) : Option R := l5 k G k v0 v1 v4 v5 h
theorem n5_eq (G : KT2 R) (σ : GS) (h : Heap) : KC k 20 c5 σ h (fun x σ h => G x (σ 1) (σ 4) h) = n5 k G (σ 0) (σ 1) (σ 4) (σ 5) h := (kloopc_eq (a := c6) rfl).trans (l5_eq k G k σ h)
@[simp] def n4 (G : KT2 R) (v0 v1 v4 v5 : GV) (h : Heap) : Option R := n5 k (fun x v1 v4 h => kb 0 x fun x => G x v1 v4 h) v0 v1 v4 v5 h
theorem n4_eq (G : KT2 R) (σ : GS) (h : Heap) : KC k 20 c4 σ h (fun x σ h => G x (σ 1) (σ 4) h) = n4 k G (σ 0) (σ 1) (σ 4) (σ 5) h := (kblock_eq (a := c5) rfl).trans (n5_eq k (fun x v1 v4 h => kb 0 x fun x => G x v1 v4 h) σ h)
noncomputable def c12 : Code := cL c3
@[simp] def n3 (G : KT2 R) (v0 v1 v4 : GV) (h : Heap) : Option R := n4 k G v0 v1 v4 (.int .i64 0) h
theorem n3_eq (G : KT2 R) (σ : GS) (h : Heap) : KC k 20 c3 σ h (fun x σ h => G x (σ 1) (σ 4) h) = n3 k G (σ 0) (σ 1) (σ 4) h := (kseq (a := c12) (b := c4) rfl (fun σ h => n4_eq k G σ h)).trans (by kernel_rfl)
@[simp] def n1 (G : KT1 R) (v0 v1 v4 : GV) (h : Heap) : Option R := n3 k (fun x v1 v4 h => kx x (n2 k G v1 h) (G x v4 h)) v0 v1 v4 h
theorem n1_eq (G : KT1 R) (σ : GS) (h : Heap) : KC k 20 c1 σ h (fun x σ h => G x (σ 4) h) = n1 k G (σ 0) (σ 1) (σ 4) h := (kseq (b := c2) rfl (fun σ h => n2_eq k G σ h)).trans (n3_eq k (fun x v1 v4 h => kx x (n2 k G v1 h) (G x v4 h)) σ h)
noncomputable def c13 : Code := cL c0
@[simp] def n0 (G : KT1 R) (v0 v1 : GV) (h : Heap) : Option R := n1 k G v0 v1 (.int .i64 0) h
theorem n0_eq (G : KT1 R) (σ : GS) (h : Heap) : KC k 20 c0 σ h (fun x σ h => G x (σ 4) h) = n0 k G (σ 0) (σ 1) h := (kseq (a := c13) (b := c1) rfl (fun σ h => n1_eq k G σ h)).trans (by kernel_rfl)
def run {R : Type} (k : Nat) (a0 : GV) (a1 : GV) (h : Heap) (fin : GV → Heap → Option R) : Option R := n0 k (fun x v4 h => kend x (fin v4 h)) a0 a1 h
theorem run_eq {R : Type} (k : Nat) (a0 : GV) (a1 : GV) (h : Heap) (fin : GV → Heap → Option R) : kfun PP cfg NN HH k fn.laws_markStringS [a0, a1] h fin = run k a0 a1 h fin := (kfun_eq (nt := 20) (c := c0) (show PP.funcs[fn.laws_markStringS]? = some Try.f158 by kernel_rfl) (by kernel_rfl) (by kernel_rfl) (fun x σ h => by cases x <;> kernel_rfl)).trans (n0_eq k (fun x v4 h => kend x (fin v4 h)) _ h)
theorem gives {k : Nat} {a0 : GV} {a1 : GV} {h : Heap} {r : GV × Heap} (e : run k a0 a1 h finH = some r) : HH fn.laws_markStringS [a0, a1] h = some r := kω_of ((run_eq k a0 a1 h finH).trans e)
end S.laws_markStringS
/-! laws_heldStringS -/
namespace S.laws_heldStringS
noncomputable def c0 : Code := bodyOf Try.f161
noncomputable def c1 : Code := cR c0
noncomputable def c2 : Code := cR c1
@[simp] def n2 {R : Type} (k : Nat) (G : KT1 R) (v1 : GV) (h : Heap) : Option R := G .ret v1 h
theorem n2_eq (G : KT1 R) (σ : GS) (h : Heap) : KC k 22 c2 σ h (fun x σ h => G x (σ 4) h) = n2 k G (σ 1) h := by kernel_rfl
noncomputable def c3 : Code := cL c1
noncomputable def c4 : Code := cR c3
noncomputable def c5 : Code := cL c4
noncomputable def c6 : Code := cL c5
noncomputable def c7 : Code := cR c6
noncomputable def c8 : Code := cR c7
@[simp] def n8 {R : Type} (k : Nat) (G : KT4 R) (v0 v1 v4 v5 : GV) (h : Heap) : Option R := (kbin .add v5 (.int .i64 1)).bind fun v11 => G .nrm v0 v1 v4 v11 h
theorem n8_eq (G : KT4 R) (σ : GS) (h : Heap) : KC k 22 c8 σ h (fun x σ h => G x (σ 0) (σ 1) (σ 4) (σ 5) h) = n8 k G (σ 0) (σ 1) (σ 4) (σ 5) h := by kernel_rfl
noncomputable def c9 : Code := cL c7
noncomputable def c10 : Code := cL c9
@[simp] def n10 {R : Type} (k : Nat) (G : KT4 R) (v0 v1 v4 v5 : GV) (h : Heap) : Option R := (kia 1 v0 v5).bind fun v14 => (kload1 h v14).bind fun v15 => (kN NN fn.laws_markText [v1] h).bind fun v17 => (kbin .neq v15 v17).bind fun v18 => kcond v18 (G .ret v0 v1 (.int .i64 (-1)) v5 h) ((kbin .add v1 (.int .i64 1)).bind fun v20 => G .nrm v0 v20 v4 v5 h)
theorem n10_eq (G : KT4 R) (σ : GS) (h : Heap) : KC k 22 c10 σ h (fun x σ h => G x (σ 0) (σ 1) (σ 4) (σ 5) h) = n10 k G (σ 0) (σ 1) (σ 4) (σ 5) h := by kernel_rfl
@[simp] def n9 (G : KT4 R) (v0 v1 v4 v5 : GV) (h : Heap) : Option R := n10 k (fun x v0 v1 v4 v5 h => kb 1 x fun x => G x v0 v1 v4 v5 h) v0 v1 v4 v5 h
theorem n9_eq (G : KT4 R) (σ : GS) (h : Heap) : KC k 22 c9 σ h (fun x σ h => G x (σ 0) (σ 1) (σ 4) (σ 5) h) = n9 k G (σ 0) (σ 1) (σ 4) (σ 5) h := (kblock_eq (a := c10) rfl).trans (n10_eq k (fun x v0 v1 v4 v5 h => kb 1 x fun x => G x v0 v1 v4 v5 h) σ h)
@[simp] def n7 (G : KT4 R) (v0 v1 v4 v5 : GV) (h : Heap) : Option R := n9 k (fun x v0 v1 v4 v5 h => kx x (n8 k G v0 v1 v4 v5 h) (G x v0 v1 v4 v5 h)) v0 v1 v4 v5 h
theorem n7_eq (G : KT4 R) (σ : GS) (h : Heap) : KC k 22 c7 σ h (fun x σ h => G x (σ 0) (σ 1) (σ 4) (σ 5) h) = n7 k G (σ 0) (σ 1) (σ 4) (σ 5) h := (kseq (b := c8) rfl (fun σ h => n8_eq k G σ h)).trans (n9_eq k (fun x v0 v1 v4 v5 h => kx x (n8 k G v0 v1 v4 v5 h) (G x v0 v1 v4 v5 h)) σ h)
noncomputable def c11 : Code := cL c6
@[simp] def n6 (G : KT4 R) (v0 v1 v4 v5 : GV) (h : Heap) : Option R := (klen v0).bind fun v8 => (kbin .lss v5 v8).bind fun v9 => kcond v9 (n7 k G v0 v1 v4 v5 h) (G (.ext 0) v0 v1 v4 v5 h)
theorem n6_eq (G : KT4 R) (σ : GS) (h : Heap) : KC k 22 c6 σ h (fun x σ h => G x (σ 0) (σ 1) (σ 4) (σ 5) h) = n6 k G (σ 0) (σ 1) (σ 4) (σ 5) h := (kseq (a := c11) (b := c7) rfl (fun σ h => n7_eq k G σ h)).trans (by kernel_rfl)
def l5 {R : Type} (k : Nat) (G : KT2 R) : Nat → GV → GV → GV → GV → Heap → Option R
  | 0, _, _, _, _, _ => none
  | r + 1, v0, v1, v4, v5, h => n6 k (fun x v0 v1 v4 v5 h => kx x (l5 k G r v0 v1 v4 v5 h) (G x v1 v4 h)) v0 v1 v4 v5 h
theorem l5_eq {R : Type} (k : Nat) (G : KT2 R) : ∀ (r : Nat) (σ : GS) (h : Heap), kloop (fun σ h K => KC k 22 c6 σ h K) r σ h (fun x σ h => G x (σ 1) (σ 4) h) = l5 k G r (σ 0) (σ 1) (σ 4) (σ 5) h
  | 0, _, _ => rfl
  | r + 1, σ, h => (kloop_eq (fun σ h => l5_eq k G r σ h)).trans (n6_eq k (fun x v0 v1 v4 v5 h => kx x (l5 k G r v0 v1 v4 v5 h) (G x v1 v4 h)) σ h)
@[simp] def n5 (G : KT2 R) (v0 v1 v4 v5 : GV) (h : Heap) : Option R := l5 k G k v0 v1 v4 v5 h
theorem n5_eq (G : KT2 R) (σ : GS) (h : Heap) : KC k 22 c5 σ h (fun x σ h => G x (σ 1) (σ 4) h) = n5 k G (σ 0) (σ 1) (σ 4) (σ 5) h := (kloopc_eq (a := c6) rfl).trans (l5_eq k G k σ h)
@[simp] def n4 (G : KT2 R) (v0 v1 v4 v5 : GV) (h : Heap) : Option R := n5 k (fun x v1 v4 h => kb 0 x fun x => G x v1 v4 h) v0 v1 v4 v5 h
theorem n4_eq (G : KT2 R) (σ : GS) (h : Heap) : KC k 22 c4 σ h (fun x σ h => G x (σ 1) (σ 4) h) = n4 k G (σ 0) (σ 1) (σ 4) (σ 5) h := (kblock_eq (a := c5) rfl).trans (n5_eq k (fun x v1 v4 h => kb 0 x fun x => G x v1 v4 h) σ h)
noncomputable def c12 : Code := cL c3
@[simp] def n3 (G : KT2 R) (v0 v1 v4 : GV) (h : Heap) : Option R := n4 k G v0 v1 v4 (.int .i64 0) h
theorem n3_eq (G : KT2 R) (σ : GS) (h : Heap) : KC k 22 c3 σ h (fun x σ h => G x (σ 1) (σ 4) h) = n3 k G (σ 0) (σ 1) (σ 4) h := (kseq (a := c12) (b := c4) rfl (fun σ h => n4_eq k G σ h)).trans (by kernel_rfl)
@[simp] def n1 (G : KT1 R) (v0 v1 v4 : GV) (h : Heap) : Option R := n3 k (fun x v1 v4 h => kx x (n2 k G v1 h) (G x v4 h)) v0 v1 v4 h
theorem n1_eq (G : KT1 R) (σ : GS) (h : Heap) : KC k 22 c1 σ h (fun x σ h => G x (σ 4) h) = n1 k G (σ 0) (σ 1) (σ 4) h := (kseq (b := c2) rfl (fun σ h => n2_eq k G σ h)).trans (n3_eq k (fun x v1 v4 h => kx x (n2 k G v1 h) (G x v4 h)) σ h)
noncomputable def c13 : Code := cL c0
@[simp] def n0 (G : KT1 R) (v0 v1 : GV) (h : Heap) : Option R := n1 k G v0 v1 (.int .i64 0) h
theorem n0_eq (G : KT1 R) (σ : GS) (h : Heap) : KC k 22 c0 σ h (fun x σ h => G x (σ 4) h) = n0 k G (σ 0) (σ 1) h := (kseq (a := c13) (b := c1) rfl (fun σ h => n1_eq k G σ h)).trans (by kernel_rfl)
def run {R : Type} (k : Nat) (a0 : GV) (a1 : GV) (h : Heap) (fin : GV → Heap → Option R) : Option R := n0 k (fun x v4 h => kend x (fin v4 h)) a0 a1 h
theorem run_eq {R : Type} (k : Nat) (a0 : GV) (a1 : GV) (h : Heap) (fin : GV → Heap → Option R) : kfun PP cfg NN HH k fn.laws_heldStringS [a0, a1] h fin = run k a0 a1 h fin := (kfun_eq (nt := 22) (c := c0) (show PP.funcs[fn.laws_heldStringS]? = some Try.f161 by kernel_rfl) (by kernel_rfl) (by kernel_rfl) (fun x σ h => by cases x <;> kernel_rfl)).trans (n0_eq k (fun x v4 h => kend x (fin v4 h)) _ h)
theorem gives {k : Nat} {a0 : GV} {a1 : GV} {v : GV} (e : run k a0 a1 [] finN = some v) : NN fn.laws_heldStringS [a0, a1] = some v := nω_of (by kernel_rfl) ((run_eq k a0 a1 [] finN).trans e)
end S.laws_heldStringS
/-! laws_eqInt64S -/
namespace S.laws_eqInt64S
noncomputable def c0 : Code := bodyOf Try.f75
noncomputable def c1 : Code := cR c0
noncomputable def c2 : Code := cR c1
noncomputable def c3 : Code := cR c2
@[simp] def n3 {R : Type} (k : Nat) (G : KT1 R) (h : Heap) : Option R := G .ret (.bool true) h
theorem n3_eq (G : KT1 R) (σ : GS) (h : Heap) : KC k 26 c3 σ h (fun x σ h => G x (σ 4) h) = n3 k G h := by kernel_rfl
noncomputable def c4 : Code := cL c2
noncomputable def c5 : Code := cR c4
noncomputable def c6 : Code := cL c5
noncomputable def c7 : Code := cL c6
noncomputable def c8 : Code := cR c7
noncomputable def c9 : Code := cR c8
@[simp] def n9 {R : Type} (k : Nat) (G : KT4 R) (v0 v1 v4 v5 : GV) (h : Heap) : Option R := (kbin .add v5 (.int .i64 1)).bind fun v16 => G .nrm v0 v1 v4 v16 h
theorem n9_eq (G : KT4 R) (σ : GS) (h : Heap) : KC k 26 c9 σ h (fun x σ h => G x (σ 0) (σ 1) (σ 4) (σ 5) h) = n9 k G (σ 0) (σ 1) (σ 4) (σ 5) h := by kernel_rfl
noncomputable def c10 : Code := cL c8
noncomputable def c11 : Code := cL c10
@[simp] def n11 {R : Type} (k : Nat) (G : KT4 R) (v0 v1 v4 v5 : GV) (h : Heap) : Option R := (kia 1 v0 v5).bind fun v19 => (kload1 h v19).bind fun v20 => (kia 1 v1 v5).bind fun v23 => (kload1 h v23).bind fun v24 => (kbin .neq v20 v24).bind fun v25 => kcond v25 (G .ret v0 v1 (.bool false) v5 h) (G .nrm v0 v1 v4 v5 h)
theorem n11_eq (G : KT4 R) (σ : GS) (h : Heap) : KC k 26 c11 σ h (fun x σ h => G x (σ 0) (σ 1) (σ 4) (σ 5) h) = n11 k G (σ 0) (σ 1) (σ 4) (σ 5) h := by kernel_rfl
@[simp] def n10 (G : KT4 R) (v0 v1 v4 v5 : GV) (h : Heap) : Option R := n11 k (fun x v0 v1 v4 v5 h => kb 1 x fun x => G x v0 v1 v4 v5 h) v0 v1 v4 v5 h
theorem n10_eq (G : KT4 R) (σ : GS) (h : Heap) : KC k 26 c10 σ h (fun x σ h => G x (σ 0) (σ 1) (σ 4) (σ 5) h) = n10 k G (σ 0) (σ 1) (σ 4) (σ 5) h := (kblock_eq (a := c11) rfl).trans (n11_eq k (fun x v0 v1 v4 v5 h => kb 1 x fun x => G x v0 v1 v4 v5 h) σ h)
@[simp] def n8 (G : KT4 R) (v0 v1 v4 v5 : GV) (h : Heap) : Option R := n10 k (fun x v0 v1 v4 v5 h => kx x (n9 k G v0 v1 v4 v5 h) (G x v0 v1 v4 v5 h)) v0 v1 v4 v5 h
theorem n8_eq (G : KT4 R) (σ : GS) (h : Heap) : KC k 26 c8 σ h (fun x σ h => G x (σ 0) (σ 1) (σ 4) (σ 5) h) = n8 k G (σ 0) (σ 1) (σ 4) (σ 5) h := (kseq (b := c9) rfl (fun σ h => n9_eq k G σ h)).trans (n10_eq k (fun x v0 v1 v4 v5 h => kx x (n9 k G v0 v1 v4 v5 h) (G x v0 v1 v4 v5 h)) σ h)
noncomputable def c12 : Code := cL c7
@[simp] def n7 (G : KT4 R) (v0 v1 v4 v5 : GV) (h : Heap) : Option R := (klen v0).bind fun v13 => (kbin .lss v5 v13).bind fun v14 => kcond v14 (n8 k G v0 v1 v4 v5 h) (G (.ext 0) v0 v1 v4 v5 h)
theorem n7_eq (G : KT4 R) (σ : GS) (h : Heap) : KC k 26 c7 σ h (fun x σ h => G x (σ 0) (σ 1) (σ 4) (σ 5) h) = n7 k G (σ 0) (σ 1) (σ 4) (σ 5) h := (kseq (a := c12) (b := c8) rfl (fun σ h => n8_eq k G σ h)).trans (by kernel_rfl)
def l6 {R : Type} (k : Nat) (G : KT1 R) : Nat → GV → GV → GV → GV → Heap → Option R
  | 0, _, _, _, _, _ => none
  | r + 1, v0, v1, v4, v5, h => n7 k (fun x v0 v1 v4 v5 h => kx x (l6 k G r v0 v1 v4 v5 h) (G x v4 h)) v0 v1 v4 v5 h
theorem l6_eq {R : Type} (k : Nat) (G : KT1 R) : ∀ (r : Nat) (σ : GS) (h : Heap), kloop (fun σ h K => KC k 26 c7 σ h K) r σ h (fun x σ h => G x (σ 4) h) = l6 k G r (σ 0) (σ 1) (σ 4) (σ 5) h
  | 0, _, _ => rfl
  | r + 1, σ, h => (kloop_eq (fun σ h => l6_eq k G r σ h)).trans (n7_eq k (fun x v0 v1 v4 v5 h => kx x (l6 k G r v0 v1 v4 v5 h) (G x v4 h)) σ h)
@[simp] def n6 (G : KT1 R) (v0 v1 v4 v5 : GV) (h : Heap) : Option R := l6 k G k v0 v1 v4 v5 h
theorem n6_eq (G : KT1 R) (σ : GS) (h : Heap) : KC k 26 c6 σ h (fun x σ h => G x (σ 4) h) = n6 k G (σ 0) (σ 1) (σ 4) (σ 5) h := (kloopc_eq (a := c7) rfl).trans (l6_eq k G k σ h)
@[simp] def n5 (G : KT1 R) (v0 v1 v4 v5 : GV) (h : Heap) : Option R := n6 k (fun x v4 h => kb 0 x fun x => G x v4 h) v0 v1 v4 v5 h
theorem n5_eq (G : KT1 R) (σ : GS) (h : Heap) : KC k 26 c5 σ h (fun x σ h => G x (σ 4) h) = n5 k G (σ 0) (σ 1) (σ 4) (σ 5) h := (kblock_eq (a := c6) rfl).trans (n6_eq k (fun x v4 h => kb 0 x fun x => G x v4 h) σ h)
noncomputable def c13 : Code := cL c4
@[simp] def n4 (G : KT1 R) (v0 v1 v4 : GV) (h : Heap) : Option R := n5 k G v0 v1 v4 (.int .i64 0) h
theorem n4_eq (G : KT1 R) (σ : GS) (h : Heap) : KC k 26 c4 σ h (fun x σ h => G x (σ 4) h) = n4 k G (σ 0) (σ 1) (σ 4) h := (kseq (a := c13) (b := c5) rfl (fun σ h => n5_eq k G σ h)).trans (by kernel_rfl)
@[simp] def n2 (G : KT1 R) (v0 v1 v4 : GV) (h : Heap) : Option R := n4 k (fun x v4 h => kx x (n3 k G h) (G x v4 h)) v0 v1 v4 h
theorem n2_eq (G : KT1 R) (σ : GS) (h : Heap) : KC k 26 c2 σ h (fun x σ h => G x (σ 4) h) = n2 k G (σ 0) (σ 1) (σ 4) h := (kseq (b := c3) rfl (fun σ h => n3_eq k G σ h)).trans (n4_eq k (fun x v4 h => kx x (n3 k G h) (G x v4 h)) σ h)
noncomputable def c14 : Code := cL c1
@[simp] def n1 (G : KT1 R) (v0 v1 v4 : GV) (h : Heap) : Option R := (klen v0).bind fun v7 => (klen v1).bind fun v9 => (kbin .neq v7 v9).bind fun v10 => kcond v10 (G .ret (.bool false) h) (n2 k G v0 v1 v4 h)
theorem n1_eq (G : KT1 R) (σ : GS) (h : Heap) : KC k 26 c1 σ h (fun x σ h => G x (σ 4) h) = n1 k G (σ 0) (σ 1) (σ 4) h := (kseq (a := c14) (b := c2) rfl (fun σ h => n2_eq k G σ h)).trans (by kernel_rfl)
noncomputable def c15 : Code := cL c0
@[simp] def n0 (G : KT1 R) (v0 v1 : GV) (h : Heap) : Option R := n1 k G v0 v1 (.bool false) h
theorem n0_eq (G : KT1 R) (σ : GS) (h : Heap) : KC k 26 c0 σ h (fun x σ h => G x (σ 4) h) = n0 k G (σ 0) (σ 1) h := (kseq (a := c15) (b := c1) rfl (fun σ h => n1_eq k G σ h)).trans (by kernel_rfl)
def run {R : Type} (k : Nat) (a0 : GV) (a1 : GV) (h : Heap) (fin : GV → Heap → Option R) : Option R := n0 k (fun x v4 h => kend x (fin v4 h)) a0 a1 h
theorem run_eq {R : Type} (k : Nat) (a0 : GV) (a1 : GV) (h : Heap) (fin : GV → Heap → Option R) : kfun PP cfg NN HH k fn.laws_eqInt64S [a0, a1] h fin = run k a0 a1 h fin := (kfun_eq (nt := 26) (c := c0) (show PP.funcs[fn.laws_eqInt64S]? = some Try.f75 by kernel_rfl) (by kernel_rfl) (by kernel_rfl) (fun x σ h => by cases x <;> kernel_rfl)).trans (n0_eq k (fun x v4 h => kend x (fin v4 h)) _ h)
theorem gives {k : Nat} {a0 : GV} {a1 : GV} {v : GV} (e : run k a0 a1 [] finN = some v) : NN fn.laws_eqInt64S [a0, a1] = some v := nω_of (by kernel_rfl) ((run_eq k a0 a1 [] finN).trans e)
end S.laws_eqInt64S
/-! laws_markInt64S -/
namespace S.laws_markInt64S
noncomputable def c0 : Code := bodyOf Try.f76
noncomputable def c1 : Code := cR c0
noncomputable def c2 : Code := cR c1
@[simp] def n2 {R : Type} (k : Nat) (G : KT1 R) (v1 : GV) (h : Heap) : Option R := G .ret v1 h
theorem n2_eq (G : KT1 R) (σ : GS) (h : Heap) : KC k 19 c2 σ h (fun x σ h => G x (σ 4) h) = n2 k G (σ 1) h := by kernel_rfl
noncomputable def c3 : Code := cL c1
noncomputable def c4 : Code := cR c3
noncomputable def c5 : Code := cL c4
noncomputable def c6 : Code := cL c5
noncomputable def c7 : Code := cR c6
noncomputable def c8 : Code := cR c7
@[simp] def n8 {R : Type} (k : Nat) (G : KT4 R) (v0 v1 v4 v5 : GV) (h : Heap) : Option R := (kbin .add v5 (.int .i64 1)).bind fun v11 => G .nrm v0 v1 v4 v11 h
theorem n8_eq (G : KT4 R) (σ : GS) (h : Heap) : KC k 19 c8 σ h (fun x σ h => G x (σ 0) (σ 1) (σ 4) (σ 5) h) = n8 k G (σ 0) (σ 1) (σ 4) (σ 5) h := by kernel_rfl
noncomputable def c9 : Code := cL c7
noncomputable def c10 : Code := cL c9
@[simp] def n10 {R : Type} (k : Nat) (G : KT4 R) (v0 v1 v4 v5 : GV) (h : Heap) : Option R := (kia 1 v0 v5).bind fun v15 => (kstore 1 h v15 v1).bind fun h => (kbin .add v1 (.int .i64 1)).bind fun v17 => G .nrm v0 v17 v4 v5 h
theorem n10_eq (G : KT4 R) (σ : GS) (h : Heap) : KC k 19 c10 σ h (fun x σ h => G x (σ 0) (σ 1) (σ 4) (σ 5) h) = n10 k G (σ 0) (σ 1) (σ 4) (σ 5) h := by kernel_rfl
@[simp] def n9 (G : KT4 R) (v0 v1 v4 v5 : GV) (h : Heap) : Option R := n10 k (fun x v0 v1 v4 v5 h => kb 1 x fun x => G x v0 v1 v4 v5 h) v0 v1 v4 v5 h
theorem n9_eq (G : KT4 R) (σ : GS) (h : Heap) : KC k 19 c9 σ h (fun x σ h => G x (σ 0) (σ 1) (σ 4) (σ 5) h) = n9 k G (σ 0) (σ 1) (σ 4) (σ 5) h := (kblock_eq (a := c10) rfl).trans (n10_eq k (fun x v0 v1 v4 v5 h => kb 1 x fun x => G x v0 v1 v4 v5 h) σ h)
@[simp] def n7 (G : KT4 R) (v0 v1 v4 v5 : GV) (h : Heap) : Option R := n9 k (fun x v0 v1 v4 v5 h => kx x (n8 k G v0 v1 v4 v5 h) (G x v0 v1 v4 v5 h)) v0 v1 v4 v5 h
theorem n7_eq (G : KT4 R) (σ : GS) (h : Heap) : KC k 19 c7 σ h (fun x σ h => G x (σ 0) (σ 1) (σ 4) (σ 5) h) = n7 k G (σ 0) (σ 1) (σ 4) (σ 5) h := (kseq (b := c8) rfl (fun σ h => n8_eq k G σ h)).trans (n9_eq k (fun x v0 v1 v4 v5 h => kx x (n8 k G v0 v1 v4 v5 h) (G x v0 v1 v4 v5 h)) σ h)
noncomputable def c11 : Code := cL c6
@[simp] def n6 (G : KT4 R) (v0 v1 v4 v5 : GV) (h : Heap) : Option R := (klen v0).bind fun v8 => (kbin .lss v5 v8).bind fun v9 => kcond v9 (n7 k G v0 v1 v4 v5 h) (G (.ext 0) v0 v1 v4 v5 h)
theorem n6_eq (G : KT4 R) (σ : GS) (h : Heap) : KC k 19 c6 σ h (fun x σ h => G x (σ 0) (σ 1) (σ 4) (σ 5) h) = n6 k G (σ 0) (σ 1) (σ 4) (σ 5) h := (kseq (a := c11) (b := c7) rfl (fun σ h => n7_eq k G σ h)).trans (by kernel_rfl)
def l5 {R : Type} (k : Nat) (G : KT2 R) : Nat → GV → GV → GV → GV → Heap → Option R
  | 0, _, _, _, _, _ => none
  | r + 1, v0, v1, v4, v5, h => n6 k (fun x v0 v1 v4 v5 h => kx x (l5 k G r v0 v1 v4 v5 h) (G x v1 v4 h)) v0 v1 v4 v5 h
theorem l5_eq {R : Type} (k : Nat) (G : KT2 R) : ∀ (r : Nat) (σ : GS) (h : Heap), kloop (fun σ h K => KC k 19 c6 σ h K) r σ h (fun x σ h => G x (σ 1) (σ 4) h) = l5 k G r (σ 0) (σ 1) (σ 4) (σ 5) h
  | 0, _, _ => rfl
  | r + 1, σ, h => (kloop_eq (fun σ h => l5_eq k G r σ h)).trans (n6_eq k (fun x v0 v1 v4 v5 h => kx x (l5 k G r v0 v1 v4 v5 h) (G x v1 v4 h)) σ h)
@[simp] def n5 (G : KT2 R) (v0 v1 v4 v5 : GV) (h : Heap) : Option R := l5 k G k v0 v1 v4 v5 h
theorem n5_eq (G : KT2 R) (σ : GS) (h : Heap) : KC k 19 c5 σ h (fun x σ h => G x (σ 1) (σ 4) h) = n5 k G (σ 0) (σ 1) (σ 4) (σ 5) h := (kloopc_eq (a := c6) rfl).trans (l5_eq k G k σ h)
@[simp] def n4 (G : KT2 R) (v0 v1 v4 v5 : GV) (h : Heap) : Option R := n5 k (fun x v1 v4 h => kb 0 x fun x => G x v1 v4 h) v0 v1 v4 v5 h
theorem n4_eq (G : KT2 R) (σ : GS) (h : Heap) : KC k 19 c4 σ h (fun x σ h => G x (σ 1) (σ 4) h) = n4 k G (σ 0) (σ 1) (σ 4) (σ 5) h := (kblock_eq (a := c5) rfl).trans (n5_eq k (fun x v1 v4 h => kb 0 x fun x => G x v1 v4 h) σ h)
noncomputable def c12 : Code := cL c3
@[simp] def n3 (G : KT2 R) (v0 v1 v4 : GV) (h : Heap) : Option R := n4 k G v0 v1 v4 (.int .i64 0) h
theorem n3_eq (G : KT2 R) (σ : GS) (h : Heap) : KC k 19 c3 σ h (fun x σ h => G x (σ 1) (σ 4) h) = n3 k G (σ 0) (σ 1) (σ 4) h := (kseq (a := c12) (b := c4) rfl (fun σ h => n4_eq k G σ h)).trans (by kernel_rfl)
@[simp] def n1 (G : KT1 R) (v0 v1 v4 : GV) (h : Heap) : Option R := n3 k (fun x v1 v4 h => kx x (n2 k G v1 h) (G x v4 h)) v0 v1 v4 h
theorem n1_eq (G : KT1 R) (σ : GS) (h : Heap) : KC k 19 c1 σ h (fun x σ h => G x (σ 4) h) = n1 k G (σ 0) (σ 1) (σ 4) h := (kseq (b := c2) rfl (fun σ h => n2_eq k G σ h)).trans (n3_eq k (fun x v1 v4 h => kx x (n2 k G v1 h) (G x v4 h)) σ h)
noncomputable def c13 : Code := cL c0
@[simp] def n0 (G : KT1 R) (v0 v1 : GV) (h : Heap) : Option R := n1 k G v0 v1 (.int .i64 0) h
theorem n0_eq (G : KT1 R) (σ : GS) (h : Heap) : KC k 19 c0 σ h (fun x σ h => G x (σ 4) h) = n0 k G (σ 0) (σ 1) h := (kseq (a := c13) (b := c1) rfl (fun σ h => n1_eq k G σ h)).trans (by kernel_rfl)
def run {R : Type} (k : Nat) (a0 : GV) (a1 : GV) (h : Heap) (fin : GV → Heap → Option R) : Option R := n0 k (fun x v4 h => kend x (fin v4 h)) a0 a1 h
theorem run_eq {R : Type} (k : Nat) (a0 : GV) (a1 : GV) (h : Heap) (fin : GV → Heap → Option R) : kfun PP cfg NN HH k fn.laws_markInt64S [a0, a1] h fin = run k a0 a1 h fin := (kfun_eq (nt := 19) (c := c0) (show PP.funcs[fn.laws_markInt64S]? = some Try.f76 by kernel_rfl) (by kernel_rfl) (by kernel_rfl) (fun x σ h => by cases x <;> kernel_rfl)).trans (n0_eq k (fun x v4 h => kend x (fin v4 h)) _ h)
theorem gives {k : Nat} {a0 : GV} {a1 : GV} {h : Heap} {r : GV × Heap} (e : run k a0 a1 h finH = some r) : HH fn.laws_markInt64S [a0, a1] h = some r := kω_of ((run_eq k a0 a1 h finH).trans e)
end S.laws_markInt64S
/-! laws_heldInt64S -/
namespace S.laws_heldInt64S
noncomputable def c0 : Code := bodyOf Try.f164
noncomputable def c1 : Code := cR c0
noncomputable def c2 : Code := cR c1
@[simp] def n2 {R : Type} (k : Nat) (G : KT1 R) (v1 : GV) (h : Heap) : Option R := G .ret v1 h
theorem n2_eq (G : KT1 R) (σ : GS) (h : Heap) : KC k 21 c2 σ h (fun x σ h => G x (σ 4) h) = n2 k G (σ 1) h := by kernel_rfl
noncomputable def c3 : Code := cL c1
noncomputable def c4 : Code := cR c3
noncomputable def c5 : Code := cL c4
noncomputable def c6 : Code := cL c5
noncomputable def c7 : Code := cR c6
noncomputable def c8 : Code := cR c7
@[simp] def n8 {R : Type} (k : Nat) (G : KT4 R) (v0 v1 v4 v5 : GV) (h : Heap) : Option R := (kbin .add v5 (.int .i64 1)).bind fun v11 => G .nrm v0 v1 v4 v11 h
theorem n8_eq (G : KT4 R) (σ : GS) (h : Heap) : KC k 21 c8 σ h (fun x σ h => G x (σ 0) (σ 1) (σ 4) (σ 5) h) = n8 k G (σ 0) (σ 1) (σ 4) (σ 5) h := by kernel_rfl
noncomputable def c9 : Code := cL c7
noncomputable def c10 : Code := cL c9
@[simp] def n10 {R : Type} (k : Nat) (G : KT4 R) (v0 v1 v4 v5 : GV) (h : Heap) : Option R := (kia 1 v0 v5).bind fun v14 => (kload1 h v14).bind fun v15 => (kbin .neq v15 v1).bind fun v17 => kcond v17 (G .ret v0 v1 (.int .i64 (-1)) v5 h) ((kbin .add v1 (.int .i64 1)).bind fun v19 => G .nrm v0 v19 v4 v5 h)
theorem n10_eq (G : KT4 R) (σ : GS) (h : Heap) : KC k 21 c10 σ h (fun x σ h => G x (σ 0) (σ 1) (σ 4) (σ 5) h) = n10 k G (σ 0) (σ 1) (σ 4) (σ 5) h := by kernel_rfl
@[simp] def n9 (G : KT4 R) (v0 v1 v4 v5 : GV) (h : Heap) : Option R := n10 k (fun x v0 v1 v4 v5 h => kb 1 x fun x => G x v0 v1 v4 v5 h) v0 v1 v4 v5 h
theorem n9_eq (G : KT4 R) (σ : GS) (h : Heap) : KC k 21 c9 σ h (fun x σ h => G x (σ 0) (σ 1) (σ 4) (σ 5) h) = n9 k G (σ 0) (σ 1) (σ 4) (σ 5) h := (kblock_eq (a := c10) rfl).trans (n10_eq k (fun x v0 v1 v4 v5 h => kb 1 x fun x => G x v0 v1 v4 v5 h) σ h)
@[simp] def n7 (G : KT4 R) (v0 v1 v4 v5 : GV) (h : Heap) : Option R := n9 k (fun x v0 v1 v4 v5 h => kx x (n8 k G v0 v1 v4 v5 h) (G x v0 v1 v4 v5 h)) v0 v1 v4 v5 h
theorem n7_eq (G : KT4 R) (σ : GS) (h : Heap) : KC k 21 c7 σ h (fun x σ h => G x (σ 0) (σ 1) (σ 4) (σ 5) h) = n7 k G (σ 0) (σ 1) (σ 4) (σ 5) h := (kseq (b := c8) rfl (fun σ h => n8_eq k G σ h)).trans (n9_eq k (fun x v0 v1 v4 v5 h => kx x (n8 k G v0 v1 v4 v5 h) (G x v0 v1 v4 v5 h)) σ h)
noncomputable def c11 : Code := cL c6
@[simp] def n6 (G : KT4 R) (v0 v1 v4 v5 : GV) (h : Heap) : Option R := (klen v0).bind fun v8 => (kbin .lss v5 v8).bind fun v9 => kcond v9 (n7 k G v0 v1 v4 v5 h) (G (.ext 0) v0 v1 v4 v5 h)
theorem n6_eq (G : KT4 R) (σ : GS) (h : Heap) : KC k 21 c6 σ h (fun x σ h => G x (σ 0) (σ 1) (σ 4) (σ 5) h) = n6 k G (σ 0) (σ 1) (σ 4) (σ 5) h := (kseq (a := c11) (b := c7) rfl (fun σ h => n7_eq k G σ h)).trans (by kernel_rfl)
def l5 {R : Type} (k : Nat) (G : KT2 R) : Nat → GV → GV → GV → GV → Heap → Option R
  | 0, _, _, _, _, _ => none
  | r + 1, v0, v1, v4, v5, h => n6 k (fun x v0 v1 v4 v5 h => kx x (l5 k G r v0 v1 v4 v5 h) (G x v1 v4 h)) v0 v1 v4 v5 h
theorem l5_eq {R : Type} (k : Nat) (G : KT2 R) : ∀ (r : Nat) (σ : GS) (h : Heap), kloop (fun σ h K => KC k 21 c6 σ h K) r σ h (fun x σ h => G x (σ 1) (σ 4) h) = l5 k G r (σ 0) (σ 1) (σ 4) (σ 5) h
  | 0, _, _ => rfl
  | r + 1, σ, h => (kloop_eq (fun σ h => l5_eq k G r σ h)).trans (n6_eq k (fun x v0 v1 v4 v5 h => kx x (l5 k G r v0 v1 v4 v5 h) (G x v1 v4 h)) σ h)
@[simp] def n5 (G : KT2 R) (v0 v1 v4 v5 : GV) (h : Heap) : Option R := l5 k G k v0 v1 v4 v5 h
theorem n5_eq (G : KT2 R) (σ : GS) (h : Heap) : KC k 21 c5 σ h (fun x σ h => G x (σ 1) (σ 4) h) = n5 k G (σ 0) (σ 1) (σ 4) (σ 5) h := (kloopc_eq (a := c6) rfl).trans (l5_eq k G k σ h)
@[simp] def n4 (G : KT2 R) (v0 v1 v4 v5 : GV) (h : Heap) : Option R := n5 k (fun x v1 v4 h => kb 0 x fun x => G x v1 v4 h) v0 v1 v4 v5 h
theorem n4_eq (G : KT2 R) (σ : GS) (h : Heap) : KC k 21 c4 σ h (fun x σ h => G x (σ 1) (σ 4) h) = n4 k G (σ 0) (σ 1) (σ 4) (σ 5) h := (kblock_eq (a := c5) rfl).trans (n5_eq k (fun x v1 v4 h => kb 0 x fun x => G x v1 v4 h) σ h)
noncomputable def c12 : Code := cL c3
@[simp] def n3 (G : KT2 R) (v0 v1 v4 : GV) (h : Heap) : Option R := n4 k G v0 v1 v4 (.int .i64 0) h
theorem n3_eq (G : KT2 R) (σ : GS) (h : Heap) : KC k 21 c3 σ h (fun x σ h => G x (σ 1) (σ 4) h) = n3 k G (σ 0) (σ 1) (σ 4) h := (kseq (a := c12) (b := c4) rfl (fun σ h => n4_eq k G σ h)).trans (by kernel_rfl)
@[simp] def n1 (G : KT1 R) (v0 v1 v4 : GV) (h : Heap) : Option R := n3 k (fun x v1 v4 h => kx x (n2 k G v1 h) (G x v4 h)) v0 v1 v4 h
theorem n1_eq (G : KT1 R) (σ : GS) (h : Heap) : KC k 21 c1 σ h (fun x σ h => G x (σ 4) h) = n1 k G (σ 0) (σ 1) (σ 4) h := (kseq (b := c2) rfl (fun σ h => n2_eq k G σ h)).trans (n3_eq k (fun x v1 v4 h => kx x (n2 k G v1 h) (G x v4 h)) σ h)
noncomputable def c13 : Code := cL c0
@[simp] def n0 (G : KT1 R) (v0 v1 : GV) (h : Heap) : Option R := n1 k G v0 v1 (.int .i64 0) h
theorem n0_eq (G : KT1 R) (σ : GS) (h : Heap) : KC k 21 c0 σ h (fun x σ h => G x (σ 4) h) = n0 k G (σ 0) (σ 1) h := (kseq (a := c13) (b := c1) rfl (fun σ h => n1_eq k G σ h)).trans (by kernel_rfl)
def run {R : Type} (k : Nat) (a0 : GV) (a1 : GV) (h : Heap) (fin : GV → Heap → Option R) : Option R := n0 k (fun x v4 h => kend x (fin v4 h)) a0 a1 h
theorem run_eq {R : Type} (k : Nat) (a0 : GV) (a1 : GV) (h : Heap) (fin : GV → Heap → Option R) : kfun PP cfg NN HH k fn.laws_heldInt64S [a0, a1] h fin = run k a0 a1 h fin := (kfun_eq (nt := 21) (c := c0) (show PP.funcs[fn.laws_heldInt64S]? = some Try.f164 by kernel_rfl) (by kernel_rfl) (by kernel_rfl) (fun x σ h => by cases x <;> kernel_rfl)).trans (n0_eq k (fun x v4 h => kend x (fin v4 h)) _ h)
theorem gives {k : Nat} {a0 : GV} {a1 : GV} {v : GV} (e : run k a0 a1 [] finN = some v) : NN fn.laws_heldInt64S [a0, a1] = some v := nω_of (by kernel_rfl) ((run_eq k a0 a1 [] finN).trans e)
end S.laws_heldInt64S
/-! laws_eqWorld -/
namespace S.laws_eqWorld
noncomputable def c0 : Code := bodyOf Try.f54
@[simp] def n0 {R : Type} (k : Nat) (G : KT1 R) (v0 v1 : GV) (h : Heap) : Option R := kbox v0 h fun v2 h => kbox v1 h fun v3 h => (kfa 0 v2).bind fun v5 => (kloadA 3 h v5).bind fun v6 => (kfa 0 v3).bind fun v7 => (kloadA 3 h v7).bind fun v8 => (kN NN fn.laws_eqChain [v6, v8] h).bind fun v9 => (kun .not v9).bind fun v10 => kcond v10 (G .ret (.bool false) h) ((kfa 3 v2).bind fun v11 => (kload1 h v11).bind fun v12 => (kfa 3 v3).bind fun v13 => (kload1 h v13).bind fun v14 => (kN NN fn.laws_eqClientS [v12, v14] h).bind fun v15 => (kun .not v15).bind fun v16 => kcond v16 (G .ret (.bool false) h) ((kfa 4 v2).bind fun v17 => (kload1 h v17).bind fun v18 => (kfa 4 v3).bind fun v19 => (kload1 h v19).bind fun v20 => (kN NN fn.laws_eqStringS [v18, v20] h).bind fun v21 => (kun .not v21).bind fun v22 => kcond v22 (G .ret (.bool false) h) ((kfa 5 v2).bind fun v23 => (kload1 h v23).bind fun v24 => (kfa 5 v3).bind fun v25 => (kload1 h v25).bind fun v26 => (kN NN fn.laws_eqDatagramS [v24, v26] h).bind fun v27 => (kun .not v27).bind fun v28 => kcond v28 (G .ret (.bool false) h) (G .ret (.bool true) h))))
theorem n0_eq (G : KT1 R) (σ : GS) (h : Heap) : KC k 29 c0 σ h (fun x σ h => G x (σ 4) h) = n0 k G (σ 0) (σ 1) h := by kernel_rfl
def run {R : Type} (k : Nat) (a0 : GV) (a1 : GV) (h : Heap) (fin : GV → Heap → Option R) : Option R := n0 k (fun x v4 h => kend x (fin v4 h)) a0 a1 h
theorem run_eq {R : Type} (k : Nat) (a0 : GV) (a1 : GV) (h : Heap) (fin : GV → Heap → Option R) : kfun PP cfg NN HH k fn.laws_eqWorld [a0, a1] h fin = run k a0 a1 h fin := (kfun_eq (nt := 29) (c := c0) (show PP.funcs[fn.laws_eqWorld]? = some Try.f54 by kernel_rfl) (by kernel_rfl) (by kernel_rfl) (fun x σ h => by cases x <;> kernel_rfl)).trans (n0_eq k (fun x v4 h => kend x (fin v4 h)) _ h)
theorem gives {k : Nat} {a0 : GV} {a1 : GV} {v : GV} (e : run k a0 a1 [] finN = some v) : NN fn.laws_eqWorld [a0, a1] = some v := nω_of (by kernel_rfl) ((run_eq k a0 a1 [] finN).trans e)
end S.laws_eqWorld
/-! laws_markWorld -/
namespace S.laws_markWorld
noncomputable def c0 : Code := bodyOf Try.f55
@[simp] def n0 {R : Type} (k : Nat) (G : KT1 R) (v0 v1 : GV) (h : Heap) : Option R := kbox v0 h fun v2 h => (kfa 0 v2).bind fun v5 => (kloadA 3 h v5).bind fun v6 => (HH fn.laws_markChain [v6, v1] h).bind fun r => kr r fun v8 h => (kfa 3 v2).bind fun v9 => (kload1 h v9).bind fun v10 => (HH fn.laws_markClientS [v10, v8] h).bind fun r => kr r fun v12 h => (kfa 4 v2).bind fun v13 => (kload1 h v13).bind fun v14 => (HH fn.laws_markStringS [v14, v12] h).bind fun r => kr r fun v16 h => (kfa 5 v2).bind fun v17 => (kload1 h v17).bind fun v18 => (HH fn.laws_markDatagramS [v18, v16] h).bind fun r => kr r fun v20 h => G .ret v20 h
theorem n0_eq (G : KT1 R) (σ : GS) (h : Heap) : KC k 22 c0 σ h (fun x σ h => G x (σ 4) h) = n0 k G (σ 0) (σ 1) h := by kernel_rfl
def run {R : Type} (k : Nat) (a0 : GV) (a1 : GV) (h : Heap) (fin : GV → Heap → Option R) : Option R := n0 k (fun x v4 h => kend x (fin v4 h)) a0 a1 h
theorem run_eq {R : Type} (k : Nat) (a0 : GV) (a1 : GV) (h : Heap) (fin : GV → Heap → Option R) : kfun PP cfg NN HH k fn.laws_markWorld [a0, a1] h fin = run k a0 a1 h fin := (kfun_eq (nt := 22) (c := c0) (show PP.funcs[fn.laws_markWorld]? = some Try.f55 by kernel_rfl) (by kernel_rfl) (by kernel_rfl) (fun x σ h => by cases x <;> kernel_rfl)).trans (n0_eq k (fun x v4 h => kend x (fin v4 h)) _ h)
theorem gives {k : Nat} {a0 : GV} {a1 : GV} {h : Heap} {r : GV × Heap} (e : run k a0 a1 h finH = some r) : HH fn.laws_markWorld [a0, a1] h = some r := kω_of ((run_eq k a0 a1 h finH).trans e)
end S.laws_markWorld
/-! laws_heldWorld -/
namespace S.laws_heldWorld
noncomputable def c0 : Code := bodyOf Try.f56
@[simp] def n0 {R : Type} (k : Nat) (G : KT1 R) (v0 v1 : GV) (h : Heap) : Option R := kbox v0 h fun v2 h => (kfa 0 v2).bind fun v5 => (kloadA 3 h v5).bind fun v6 => (kN NN fn.laws_heldChain [v6, v1] h).bind fun v8 => (kbin .lss v8 (.int .i64 0)).bind fun v10 => kcond v10 (G .ret (.int .i64 (-1)) h) ((kfa 3 v2).bind fun v11 => (kload1 h v11).bind fun v12 => (kN NN fn.laws_heldClientS [v12, v8] h).bind fun v14 => (kbin .lss v14 (.int .i64 0)).bind fun v16 => kcond v16 (G .ret (.int .i64 (-1)) h) ((kfa 4 v2).bind fun v17 => (kload1 h v17).bind fun v18 => (kN NN fn.laws_heldStringS [v18, v14] h).bind fun v20 => (kbin .lss v20 (.int .i64 0)).bind fun v22 => kcond v22 (G .ret (.int .i64 (-1)) h) ((kfa 5 v2).bind fun v23 => (kload1 h v23).bind fun v24 => (kN NN fn.laws_heldDatagramS [v24, v20] h).bind fun v26 => (kbin .lss v26 (.int .i64 0)).bind fun v28 => kcond v28 (G .ret (.int .i64 (-1)) h) (G .ret v26 h))))
theorem n0_eq (G : KT1 R) (σ : GS) (h : Heap) : KC k 30 c0 σ h (fun x σ h => G x (σ 4) h) = n0 k G (σ 0) (σ 1) h := by kernel_rfl
def run {R : Type} (k : Nat) (a0 : GV) (a1 : GV) (h : Heap) (fin : GV → Heap → Option R) : Option R := n0 k (fun x v4 h => kend x (fin v4 h)) a0 a1 h
theorem run_eq {R : Type} (k : Nat) (a0 : GV) (a1 : GV) (h : Heap) (fin : GV → Heap → Option R) : kfun PP cfg NN HH k fn.laws_heldWorld [a0, a1] h fin = run k a0 a1 h fin := (kfun_eq (nt := 30) (c := c0) (show PP.funcs[fn.laws_heldWorld]? = some Try.f56 by kernel_rfl) (by kernel_rfl) (by kernel_rfl) (fun x σ h => by cases x <;> kernel_rfl)).trans (n0_eq k (fun x v4 h => kend x (fin v4 h)) _ h)
theorem gives {k : Nat} {a0 : GV} {a1 : GV} {v : GV} (e : run k a0 a1 [] finN = some v) : NN fn.laws_heldWorld [a0, a1] = some v := nω_of (by kernel_rfl) ((run_eq k a0 a1 [] finN).trans e)
end S.laws_heldWorld
/-! laws_eqClientS -/
namespace S.laws_eqClientS
noncomputable def c0 : Code := bodyOf Try.f154
noncomputable def c1 : Code := cR c0
noncomputable def c2 : Code := cR c1
noncomputable def c3 : Code := cR c2
@[simp] def n3 {R : Type} (k : Nat) (G : KT1 R) (h : Heap) : Option R := G .ret (.bool true) h
theorem n3_eq (G : KT1 R) (σ : GS) (h : Heap) : KC k 27 c3 σ h (fun x σ h => G x (σ 4) h) = n3 k G h := by kernel_rfl
noncomputable def c4 : Code := cL c2
noncomputable def c5 : Code := cR c4
noncomputable def c6 : Code := cL c5
noncomputable def c7 : Code := cL c6
noncomputable def c8 : Code := cR c7
noncomputable def c9 : Code := cR c8
@[simp] def n9 {R : Type} (k : Nat) (G : KT4 R) (v0 v1 v4 v5 : GV) (h : Heap) : Option R := (kbin .add v5 (.int .i64 1)).bind fun v16 => G .nrm v0 v1 v4 v16 h
theorem n9_eq (G : KT4 R) (σ : GS) (h : Heap) : KC k 27 c9 σ h (fun x σ h => G x (σ 0) (σ 1) (σ 4) (σ 5) h) = n9 k G (σ 0) (σ 1) (σ 4) (σ 5) h := by kernel_rfl
noncomputable def c10 : Code := cL c8
noncomputable def c11 : Code := cL c10
@[simp] def n11 {R : Type} (k : Nat) (G : KT4 R) (v0 v1 v4 v5 : GV) (h : Heap) : Option R := (kia 9 v0 v5).bind fun v19 => (kloadA 9 h v19).bind fun v20 => (kia 9 v1 v5).bind fun v23 => (kloadA 9 h v23).bind fun v24 => (kN NN fn.laws_eqClient [v20, v24] h).bind fun v25 => (kun .not v25).bind fun v26 => kcond v26 (G .ret v0 v1 (.bool false) v5 h) (G .nrm v0 v1 v4 v5 h)
theorem n11_eq (G : KT4 R) (σ : GS) (h : Heap) : KC k 27 c11 σ h (fun x σ h => G x (σ 0) (σ 1) (σ 4) (σ 5) h) = n11 k G (σ 0) (σ 1) (σ 4) (σ 5) h := by kernel_rfl
@[simp] def n10 (G : KT4 R) (v0 v1 v4 v5 : GV) (h : Heap) : Option R := n11 k (fun x v0 v1 v4 v5 h => kb 1 x fun x => G x v0 v1 v4 v5 h) v0 v1 v4 v5 h
theorem n10_eq (G : KT4 R) (σ : GS) (h : Heap) : KC k 27 c10 σ h (fun x σ h => G x (σ 0) (σ 1) (σ 4) (σ 5) h) = n10 k G (σ 0) (σ 1) (σ 4) (σ 5) h := (kblock_eq (a := c11) rfl).trans (n11_eq k (fun x v0 v1 v4 v5 h => kb 1 x fun x => G x v0 v1 v4 v5 h) σ h)
@[simp] def n8 (G : KT4 R) (v0 v1 v4 v5 : GV) (h : Heap) : Option R := n10 k (fun x v0 v1 v4 v5 h => kx x (n9 k G v0 v1 v4 v5 h) (G x v0 v1 v4 v5 h)) v0 v1 v4 v5 h
theorem n8_eq (G : KT4 R) (σ : GS) (h : Heap) : KC k 27 c8 σ h (fun x σ h => G x (σ 0) (σ 1) (σ 4) (σ 5) h) = n8 k G (σ 0) (σ 1) (σ 4) (σ 5) h := (kseq (b := c9) rfl (fun σ h => n9_eq k G σ h)).trans (n10_eq k (fun x v0 v1 v4 v5 h => kx x (n9 k G v0 v1 v4 v5 h) (G x v0 v1 v4 v5 h)) σ h)
noncomputable def c12 : Code := cL c7
@[simp] def n7 (G : KT4 R) (v0 v1 v4 v5 : GV) (h : Heap) : Option R := (klen v0).bind fun v13 => (kbin .lss v5 v13).bind fun v14 => kcond v14 (n8 k G v0 v1 v4 v5 h) (G (.ext 0) v0 v1 v4 v5 h)
theorem n7_eq (G : KT4 R) (σ : GS) (h : Heap) : KC k 27 c7 σ h (fun x σ h => G x (σ 0) (σ 1) (σ 4) (σ 5) h) = n7 k G (σ 0) (σ 1) (σ 4) (σ 5) h := (kseq (a := c12) (b := c8) rfl (fun σ h => n8_eq k G σ h)).trans (by kernel_rfl)
def l6 {R : Type} (k : Nat) (G : KT1 R) : Nat → GV → GV → GV → GV → Heap → Option R
  | 0, _, _, _, _, _ => none
  | r + 1, v0, v1, v4, v5, h => n7 k (fun x v0 v1 v4 v5 h => kx x (l6 k G r v0 v1 v4 v5 h) (G x v4 h)) v0 v1 v4 v5 h
theorem l6_eq {R : Type} (k : Nat) (G : KT1 R) : ∀ (r : Nat) (σ : GS) (h : Heap), kloop (fun σ h K => KC k 27 c7 σ h K) r σ h (fun x σ h => G x (σ 4) h) = l6 k G r (σ 0) (σ 1) (σ 4) (σ 5) h
  | 0, _, _ => rfl
  | r + 1, σ, h => (kloop_eq (fun σ h => l6_eq k G r σ h)).trans (n7_eq k (fun x v0 v1 v4 v5 h => kx x (l6 k G r v0 v1 v4 v5 h) (G x v4 h)) σ h)
@[simp] def n6 (G : KT1 R) (v0 v1 v4 v5 : GV) (h : Heap) : Option R := l6 k G k v0 v1 v4 v5 h
theorem n6_eq (G : KT1 R) (σ : GS) (h : Heap) : KC k 27 c6 σ h (fun x σ h => G x (σ 4) h) = n6 k G (σ 0) (σ 1) (σ 4) (σ 5) h := (kloopc_eq (a := c7) rfl).trans (l6_eq k G k σ h)
@[simp] def n5 (G : KT1 R) (v0 v1 v4 v5 : GV) (h : Heap) : Option R := n6 k (fun x v4 h => kb 0 x fun x => G x v4 h) v0 v1 v4 v5 h
theorem n5_eq (G : KT1 R) (σ : GS) (h : Heap) : KC k 27 c5 σ h (fun x σ h => G x (σ 4) h) = n5 k G (σ 0) (σ 1) (σ 4) (σ 5) h := (kblock_eq (a := c6) rfl).trans (n6_eq k (fun x v4 h => kb 0 x fun x => G x v4 h) σ h)
noncomputable def c13 : Code := cL c4
@[simp] def n4 (G : KT1 R) (v0 v1 v4 : GV) (h : Heap) : Option R := n5 k G v0 v1 v4 (.int .i64 0) h
theorem n4_eq (G : KT1 R) (σ : GS) (h : Heap) : KC k 27 c4 σ h (fun x σ h => G x (σ 4) h) = n4 k G (σ 0) (σ 1) (σ 4) h := (kseq (a := c13) (b := c5) rfl (fun σ h => n5_eq k G σ h)).trans (by kernel_rfl)
@[simp] def n2 (G : KT1 R) (v0 v1 v4 : GV) (h : Heap) : Option R := n4 k (fun x v4 h => kx x (n3 k G h) (G x v4 h)) v0 v1 v4 h
theorem n2_eq (G : KT1 R) (σ : GS) (h : Heap) : KC k 27 c2 σ h (fun x σ h => G x (σ 4) h) = n2 k G (σ 0) (σ 1) (σ 4) h := (kseq (b := c3) rfl (fun σ h => n3_eq k G σ h)).trans (n4_eq k (fun x v4 h => kx x (n3 k G h) (G x v4 h)) σ h)
noncomputable def c14 : Code := cL c1
@[simp] def n1 (G : KT1 R) (v0 v1 v4 : GV) (h : Heap) : Option R := (klen v0).bind fun v7 => (klen v1).bind fun v9 => (kbin .neq v7 v9).bind fun v10 => kcond v10 (G .ret (.bool false) h) (n2 k G v0 v1 v4 h)
theorem n1_eq (G : KT1 R) (σ : GS) (h : Heap) : KC k 27 c1 σ h (fun x σ h => G x (σ 4) h) = n1 k G (σ 0) (σ 1) (σ 4) h := (kseq (a := c14) (b := c2) rfl (fun σ h => n2_eq k G σ h)).trans (by kernel_rfl)
noncomputable def c15 : Code := cL c0
@[simp] def n0 (G : KT1 R) (v0 v1 : GV) (h : Heap) : Option R := n1 k G v0 v1 (.bool false) h
theorem n0_eq (G : KT1 R) (σ : GS) (h : Heap) : KC k 27 c0 σ h (fun x σ h => G x (σ 4) h) = n0 k G (σ 0) (σ 1) h := (kseq (a := c15) (b := c1) rfl (fun σ h => n1_eq k G σ h)).trans (by kernel_rfl)
def run {R : Type} (k : Nat) (a0 : GV) (a1 : GV) (h : Heap) (fin : GV → Heap → Option R) : Option R := n0 k (fun x v4 h => kend x (fin v4 h)) a0 a1 h
theorem run_eq {R : Type} (k : Nat) (a0 : GV) (a1 : GV) (h : Heap) (fin : GV → Heap → Option R) : kfun PP cfg NN HH k fn.laws_eqClientS [a0, a1] h fin = run k a0 a1 h fin := (kfun_eq (nt := 27) (c := c0) (show PP.funcs[fn.laws_eqClientS]? = some Try.f154 by kernel_rfl) (by kernel_rfl) (by kernel_rfl) (fun x σ h => by cases x <;> kernel_rfl)).trans (n0_eq k (fun x v4 h => kend x (fin v4 h)) _ h)
theorem gives {k : Nat} {a0 : GV} {a1 : GV} {v : GV} (e : run k a0 a1 [] finN = some v) : NN fn.laws_eqClientS [a0, a1] = some v := nω_of (by kernel_rfl) ((run_eq k a0 a1 [] finN).trans e)
end S.laws_eqClientS
/-! laws_eqClient -/
namespace S.laws_eqClient
noncomputable def c0 : Code := bodyOf Try.f216
noncomputable def c1 : Code := cR c0
noncomputable def c2 : Code := cR c1
@[simp] def n2 {R : Type} (k : Nat) (G : KT1 R) (v2 v3 v4 : GV) (h : Heap) : Option R := (kfa 1 v2).bind fun v10 => (kload1 h v10).bind fun v11 => (kfa 1 v3).bind fun v12 => (kload1 h v12).bind fun v13 => (kN NN fn.laws_eqStringS [v11, v13] h).bind fun v14 => (kun .not v14).bind fun v15 => kcond v15 (G .ret (.bool false) h) ((kfa 2 v2).bind fun v16 => (kload1 h v16).bind fun v17 => (kfa 2 v3).bind fun v18 => (kload1 h v18).bind fun v19 => (kbin .neq v17 v19).bind fun v20 => kcond v20 (G .ret (.bool false) h) ((kfa 3 v2).bind fun v21 => (kloadA 2 h v21).bind fun v22 => (kfa 3 v3).bind fun v23 => (kloadA 2 h v23).bind fun v24 => (kN NN fn.laws_eqGrid [v22, v24] h).bind fun v25 => (kun .not v25).bind fun v26 => kcond v26 (G .ret (.bool false) h) ((kfa 5 v2).bind fun v27 => (kload1 h v27).bind fun v28 => (kfa 5 v3).bind fun v29 => (kload1 h v29).bind fun v30 => (kbin .neq v28 v30).bind fun v31 => kcond v31 (G .ret (.bool false) h) ((kfa 6 v2).bind fun v32 => (kloadA 2 h v32).bind fun v33 => (kfa 6 v3).bind fun v34 => (kloadA 2 h v34).bind fun v35 => (kN NN fn.laws_eqWindow [v33, v35] h).bind fun v36 => (kun .not v36).bind fun v37 => kcond v37 (G .ret (.bool false) h) ((kfa 8 v2).bind fun v38 => (kload1 h v38).bind fun v39 => (kfa 8 v3).bind fun v40 => (kload1 h v40).bind fun v41 => (kbin .neq v39 v41).bind fun v42 => kcond v42 (G .ret (.bool false) h) (G .ret (.bool true) h))))))
theorem n2_eq (G : KT1 R) (σ : GS) (h : Heap) : KC k 43 c2 σ h (fun x σ h => G x (σ 4) h) = n2 k G (σ 2) (σ 3) (σ 4) h := by kernel_rfl
noncomputable def c3 : Code := cL c1
@[simp] def n1 (G : KT1 R) (v2 v3 v4 : GV) (h : Heap) : Option R := (kfa 0 v2).bind fun v5 => (kload1 h v5).bind fun v6 => (kfa 0 v3).bind fun v7 => (kload1 h v7).bind fun v8 => (kbin .neq v6 v8).bind fun v9 => kcond v9 (G .ret (.bool false) h) (n2 k G v2 v3 v4 h)
theorem n1_eq (G : KT1 R) (σ : GS) (h : Heap) : KC k 43 c1 σ h (fun x σ h => G x (σ 4) h) = n1 k G (σ 2) (σ 3) (σ 4) h := (kseq (a := c3) (b := c2) rfl (fun σ h => n2_eq k G σ h)).trans (by kernel_rfl)
noncomputable def c4 : Code := cL c0
@[simp] def n0 (G : KT1 R) (v0 v1 : GV) (h : Heap) : Option R := kbox v0 h fun v2 h => kbox v1 h fun v3 h => n1 k G v2 v3 (.bool false) h
theorem n0_eq (G : KT1 R) (σ : GS) (h : Heap) : KC k 43 c0 σ h (fun x σ h => G x (σ 4) h) = n0 k G (σ 0) (σ 1) h := (kseq (a := c4) (b := c1) rfl (fun σ h => n1_eq k G σ h)).trans (by kernel_rfl)
def run {R : Type} (k : Nat) (a0 : GV) (a1 : GV) (h : Heap) (fin : GV → Heap → Option R) : Option R := n0 k (fun x v4 h => kend x (fin v4 h)) a0 a1 h
theorem run_eq {R : Type} (k : Nat) (a0 : GV) (a1 : GV) (h : Heap) (fin : GV → Heap → Option R) : kfun PP cfg NN HH k fn.laws_eqClient [a0, a1] h fin = run k a0 a1 h fin := (kfun_eq (nt := 43) (c := c0) (show PP.funcs[fn.laws_eqClient]? = some Try.f216 by kernel_rfl) (by kernel_rfl) (by kernel_rfl) (fun x σ h => by cases x <;> kernel_rfl)).trans (n0_eq k (fun x v4 h => kend x (fin v4 h)) _ h)
theorem gives {k : Nat} {a0 : GV} {a1 : GV} {v : GV} (e : run k a0 a1 [] finN = some v) : NN fn.laws_eqClient [a0, a1] = some v := nω_of (by kernel_rfl) ((run_eq k a0 a1 [] finN).trans e)
end S.laws_eqClient
/-! laws_markClientS -/
namespace S.laws_markClientS
noncomputable def c0 : Code := bodyOf Try.f157
noncomputable def c1 : Code := cR c0
noncomputable def c2 : Code := cR c1
@[simp] def n2 {R : Type} (k : Nat) (G : KT1 R) (v1 : GV) (h : Heap) : Option R := G .ret v1 h
theorem n2_eq (G : KT1 R) (σ : GS) (h : Heap) : KC k 80 c2 σ h (fun x σ h => G x (σ 4) h) = n2 k G (σ 1) h := by kernel_rfl
noncomputable def c3 : Code := cL c1
noncomputable def c4 : Code := cR c3
noncomputable def c5 : Code := cL c4
noncomputable def c6 : Code := cL c5
noncomputable def c7 : Code := cR c6
noncomputable def c8 : Code := cR c7
@[simp] def n8 {R : Type} (k : Nat) (G : KT4 R) (v0 v1 v4 v5 : GV) (h : Heap) : Option R := (kbin .add v5 (.int .i64 1)).bind fun v11 => G .nrm v0 v1 v4 v11 h
theorem n8_eq (G : KT4 R) (σ : GS) (h : Heap) : KC k 80 c8 σ h (fun x σ h => G x (σ 0) (σ 1) (σ 4) (σ 5) h) = n8 k G (σ 0) (σ 1) (σ 4) (σ 5) h := by kernel_rfl
noncomputable def c9 : Code := cL c7
noncomputable def c10 : Code := cL c9
noncomputable def c11 : Code := cR c10
noncomputable def c12 : Code := cR c11
noncomputable def c13 : Code := cR c12
noncomputable def c14 : Code := cR c13
@[simp] def n14 {R : Type} (k : Nat) (G : KT4 R) (v0 v1 v4 v5 : GV) (h : Heap) : Option R := (kbin .add v1 (.int .i64 1)).bind fun v32 => (kia 9 v0 v5).bind fun v36 => (kfa 3 v36).bind fun v37 => (kfa 0 v37).bind fun v38 => (kstore 1 h v38 v32).bind fun h => (kbin .add v32 (.int .i64 1)).bind fun v40 => (kia 9 v0 v5).bind fun v43 => (kfa 3 v43).bind fun v44 => (kfa 1 v44).bind fun v45 => (kload1 h v45).bind fun v46 => (HH fn.laws_markCellSS [v46, v40] h).bind fun r => kr r fun v48 h => (kia 9 v0 v5).bind fun v52 => (kfa 5 v52).bind fun v53 => (kstore 1 h v53 v48).bind fun h => (kbin .add v48 (.int .i64 1)).bind fun v55 => (kia 9 v0 v5).bind fun v59 => (kfa 6 v59).bind fun v60 => (kfa 0 v60).bind fun v61 => (kstore 1 h v61 v55).bind fun h => (kbin .add v55 (.int .i64 1)).bind fun v63 => (kia 9 v0 v5).bind fun v66 => (kfa 6 v66).bind fun v67 => (kfa 1 v67).bind fun v68 => (kload1 h v68).bind fun v69 => (HH fn.laws_markInt64S [v69, v63] h).bind fun r => kr r fun v71 h => (kia 9 v0 v5).bind fun v75 => (kfa 8 v75).bind fun v76 => (kstore 1 h v76 v71).bind fun h => (kbin .add v71 (.int .i64 1)).bind fun v78 => G .nrm v0 v78 v4 v5 h
theorem n14_eq (G : KT4 R) (σ : GS) (h : Heap) : KC k 80 c14 σ h (fun x σ h => G x (σ 0) (σ 1) (σ 4) (σ 5) h) = n14 k G (σ 0) (σ 1) (σ 4) (σ 5) h := by kernel_rfl
noncomputable def c15 : Code := cL c13
@[simp] def n13 (G : KT4 R) (v0 v1 v4 v5 : GV) (h : Heap) : Option R := (kia 9 v0 v5).bind fun v29 => (kfa 2 v29).bind fun v30 => (kstore 1 h v30 v1).bind fun h => n14 k G v0 v1 v4 v5 h
theorem n13_eq (G : KT4 R) (σ : GS) (h : Heap) : KC k 80 c13 σ h (fun x σ h => G x (σ 0) (σ 1) (σ 4) (σ 5) h) = n13 k G (σ 0) (σ 1) (σ 4) (σ 5) h := (kseq (a := c15) (b := c14) rfl (fun σ h => n14_eq k G σ h)).trans (by kernel_rfl)
noncomputable def c16 : Code := cL c12
@[simp] def n12 (G : KT4 R) (v0 v1 v4 v5 : GV) (h : Heap) : Option R := (kia 9 v0 v5).bind fun v21 => (kfa 1 v21).bind fun v22 => (kload1 h v22).bind fun v23 => (HH fn.laws_markStringS [v23, v1] h).bind fun r => kr r fun v25 h => n13 k G v0 v25 v4 v5 h
theorem n12_eq (G : KT4 R) (σ : GS) (h : Heap) : KC k 80 c12 σ h (fun x σ h => G x (σ 0) (σ 1) (σ 4) (σ 5) h) = n12 k G (σ 0) (σ 1) (σ 4) (σ 5) h := (kseq (a := c16) (b := c13) rfl (fun σ h => n13_eq k G σ h)).trans (by kernel_rfl)
noncomputable def c17 : Code := cL c11
@[simp] def n11 (G : KT4 R) (v0 v1 v4 v5 : GV) (h : Heap) : Option R := (kbin .add v1 (.int .i64 1)).bind fun v18 => n12 k G v0 v18 v4 v5 h
theorem n11_eq (G : KT4 R) (σ : GS) (h : Heap) : KC k 80 c11 σ h (fun x σ h => G x (σ 0) (σ 1) (σ 4) (σ 5) h) = n11 k G (σ 0) (σ 1) (σ 4) (σ 5) h := (kseq (a := c17) (b := c12) rfl (fun σ h => n12_eq k G σ h)).trans (by kernel_rfl)
noncomputable def c18 : Code := cL c10
@[simp] def n10 (G : KT4 R) (v0 v1 v4 v5 : GV) (h : Heap) : Option R := (kia 9 v0 v5).bind fun v15 => (kfa 0 v15).bind fun v16 => (kstore 1 h v16 v1).bind fun h => n11 k G v0 v1 v4 v5 h
theorem n10_eq (G : KT4 R) (σ : GS) (h : Heap) : KC k 80 c10 σ h (fun x σ h => G x (σ 0) (σ 1) (σ 4) (σ 5) h) = n10 k G (σ 0) (σ 1) (σ 4) (σ 5) h := (kseq (a := c18) (b := c11) rfl (fun σ h => n11_eq k G σ h)).trans (by kernel_rfl)
@[simp] def n9 (G : KT4 R) (v0 v1 v4 v5 : GV) (h : Heap) : Option R := n10 k (fun x v0 v1 v4 v5 h => kb 1 x fun x => G x v0 v1 v4 v5 h) v0 v1 v4 v5 h
theorem n9_eq (G : KT4 R) (σ : GS) (h : Heap) : KC k 80 c9 σ h (fun x σ h => G x (σ 0) (σ 1) (σ 4) (σ 5) h) = n9 k G (σ 0) (σ 1) (σ 4) (σ 5) h := (kblock_eq (a := c10) rfl).trans (n10_eq k (fun x v0 v1 v4 v5 h => kb 1 x fun x => G x v0 v1 v4 v5 h) σ h)
@[simp] def n7 (G : KT4 R) (v0 v1 v4 v5 : GV) (h : Heap) : Option R := n9 k (fun x v0 v1 v4 v5 h => kx x (n8 k G v0 v1 v4 v5 h) (G x v0 v1 v4 v5 h)) v0 v1 v4 v5 h
theorem n7_eq (G : KT4 R) (σ : GS) (h : Heap) : KC k 80 c7 σ h (fun x σ h => G x (σ 0) (σ 1) (σ 4) (σ 5) h) = n7 k G (σ 0) (σ 1) (σ 4) (σ 5) h := (kseq (b := c8) rfl (fun σ h => n8_eq k G σ h)).trans (n9_eq k (fun x v0 v1 v4 v5 h => kx x (n8 k G v0 v1 v4 v5 h) (G x v0 v1 v4 v5 h)) σ h)
noncomputable def c19 : Code := cL c6
@[simp] def n6 (G : KT4 R) (v0 v1 v4 v5 : GV) (h : Heap) : Option R := (klen v0).bind fun v8 => (kbin .lss v5 v8).bind fun v9 => kcond v9 (n7 k G v0 v1 v4 v5 h) (G (.ext 0) v0 v1 v4 v5 h)
theorem n6_eq (G : KT4 R) (σ : GS) (h : Heap) : KC k 80 c6 σ h (fun x σ h => G x (σ 0) (σ 1) (σ 4) (σ 5) h) = n6 k G (σ 0) (σ 1) (σ 4) (σ 5) h := (kseq (a := c19) (b := c7) rfl (fun σ h => n7_eq k G σ h)).trans (by kernel_rfl)
def l5 {R : Type} (k : Nat) (G : KT2 R) : Nat → GV → GV → GV → GV → Heap → Option R
  | 0, _, _, _, _, _ => none
  | r + 1, v0, v1, v4, v5, h => n6 k (fun x v0 v1 v4 v5 h => kx x (l5 k G r v0 v1 v4 v5 h) (G x v1 v4 h)) v0 v1 v4 v5 h
theorem l5_eq {R : Type} (k : Nat) (G : KT2 R) : ∀ (r : Nat) (σ : GS) (h : Heap), kloop (fun σ h K => KC k 80 c6 σ h K) r σ h (fun x σ h => G x (σ 1) (σ 4) h) = l5 k G r (σ 0) (σ 1) (σ 4) (σ 5) h
  | 0, _, _ => rfl
  | r + 1, σ, h => (kloop_eq (fun σ h => l5_eq k G r σ h)).trans (n6_eq k (fun x v0 v1 v4 v5 h => kx x (l5 k G r v0 v1 v4 v5 h) (G x v1 v4 h)) σ h)
@[simp] def n5 (G : KT2 R) (v0 v1 v4 v5 : GV) (h : Heap) : Option R := l5 k G k v0 v1 v4 v5 h
theorem n5_eq (G : KT2 R) (σ : GS) (h : Heap) : KC k 80 c5 σ h (fun x σ h => G x (σ 1) (σ 4) h) = n5 k G (σ 0) (σ 1) (σ 4) (σ 5) h := (kloopc_eq (a := c6) rfl).trans (l5_eq k G k σ h)
@[simp] def n4 (G : KT2 R) (v0 v1 v4 v5 : GV) (h : Heap) : Option R := n5 k (fun x v1 v4 h => kb 0 x fun x => G x v1 v4 h) v0 v1 v4 v5 h
theorem n4_eq (G : KT2 R) (σ : GS) (h : Heap) : KC k 80 c4 σ h (fun x σ h => G x (σ 1) (σ 4) h) = n4 k G (σ 0) (σ 1) (σ 4) (σ 5) h := (kblock_eq (a := c5) rfl).trans (n5_eq k (fun x v1 v4 h => kb 0 x fun x => G x v1 v4 h) σ h)
noncomputable def c20 : Code := cL c3
@[simp] def n3 (G : KT2 R) (v0 v1 v4 : GV) (h : Heap) : Option R := n4 k G v0 v1 v4 (.int .i64 0) h
theorem n3_eq (G : KT2 R) (σ : GS) (h : Heap) : KC k 80 c3 σ h (fun x σ h => G x (σ 1) (σ 4) h) = n3 k G (σ 0) (σ 1) (σ 4) h := (kseq (a := c20) (b := c4) rfl (fun σ h => n4_eq k G σ h)).trans (by kernel_rfl)
@[simp] def n1 (G : KT1 R) (v0 v1 v4 : GV) (h : Heap) : Option R := n3 k (fun x v1 v4 h => kx x (n2 k G v1 h) (G x v4 h)) v0 v1 v4 h
theorem n1_eq (G : KT1 R) (σ : GS) (h : Heap) : KC k 80 c1 σ h (fun x σ h => G x (σ 4) h) = n1 k G (σ 0) (σ 1) (σ 4) h := (kseq (b := c2) rfl (fun σ h => n2_eq k G σ h)).trans (n3_eq k (fun x v1 v4 h => kx x (n2 k G v1 h) (G x v4 h)) σ h)
noncomputable def c21 : Code := cL c0
@[simp] def n0 (G : KT1 R) (v0 v1 : GV) (h : Heap) : Option R := n1 k G v0 v1 (.int .i64 0) h
theorem n0_eq (G : KT1 R) (σ : GS) (h : Heap) : KC k 80 c0 σ h (fun x σ h => G x (σ 4) h) = n0 k G (σ 0) (σ 1) h := (kseq (a := c21) (b := c1) rfl (fun σ h => n1_eq k G σ h)).trans (by kernel_rfl)
def run {R : Type} (k : Nat) (a0 : GV) (a1 : GV) (h : Heap) (fin : GV → Heap → Option R) : Option R := n0 k (fun x v4 h => kend x (fin v4 h)) a0 a1 h
theorem run_eq {R : Type} (k : Nat) (a0 : GV) (a1 : GV) (h : Heap) (fin : GV → Heap → Option R) : kfun PP cfg NN HH k fn.laws_markClientS [a0, a1] h fin = run k a0 a1 h fin := (kfun_eq (nt := 80) (c := c0) (show PP.funcs[fn.laws_markClientS]? = some Try.f157 by kernel_rfl) (by kernel_rfl) (by kernel_rfl) (fun x σ h => by cases x <;> kernel_rfl)).trans (n0_eq k (fun x v4 h => kend x (fin v4 h)) _ h)
theorem gives {k : Nat} {a0 : GV} {a1 : GV} {h : Heap} {r : GV × Heap} (e : run k a0 a1 h finH = some r) : HH fn.laws_markClientS [a0, a1] h = some r := kω_of ((run_eq k a0 a1 h finH).trans e)
end S.laws_markClientS
/-! laws_heldClientS -/
namespace S.laws_heldClientS
noncomputable def c0 : Code := bodyOf Try.f160
noncomputable def c1 : Code := cR c0
noncomputable def c2 : Code := cR c1
@[simp] def n2 {R : Type} (k : Nat) (G : KT1 R) (v1 : GV) (h : Heap) : Option R := G .ret v1 h
theorem n2_eq (G : KT1 R) (σ : GS) (h : Heap) : KC k 98 c2 σ h (fun x σ h => G x (σ 4) h) = n2 k G (σ 1) h := by kernel_rfl
noncomputable def c3 : Code := cL c1
noncomputable def c4 : Code := cR c3
noncomputable def c5 : Code := cL c4
noncomputable def c6 : Code := cL c5
noncomputable def c7 : Code := cR c6
noncomputable def c8 : Code := cR c7
@[simp] def n8 {R : Type} (k : Nat) (G : KT4 R) (v0 v1 v4 v5 : GV) (h : Heap) : Option R := (kbin .add v5 (.int .i64 1)).bind fun v11 => G .nrm v0 v1 v4 v11 h
theorem n8_eq (G : KT4 R) (σ : GS) (h : Heap) : KC k 98 c8 σ h (fun x σ h => G x (σ 0) (σ 1) (σ 4) (σ 5) h) = n8 k G (σ 0) (σ 1) (σ 4) (σ 5) h := by kernel_rfl
noncomputable def c9 : Code := cL c7
noncomputable def c10 : Code := cL c9
noncomputable def c11 : Code := cR c10
noncomputable def c12 : Code := cR c11
noncomputable def c13 : Code := cR c12
noncomputable def c14 : Code := cR c13
noncomputable def c15 : Code := cR c14
noncomputable def c16 : Code := cR c15
noncomputable def c17 : Code := cR c16
noncomputable def c18 : Code := cR c17
noncomputable def c19 : Code := cR c18
noncomputable def c20 : Code := cR c19
@[simp] def n20 {R : Type} (k : Nat) (G : KT4 R) (v0 v1 v4 v5 : GV) (h : Heap) : Option R := (kia 9 v0 v5).bind fun v61 => (kfa 5 v61).bind fun v62 => (kload1 h v62).bind fun v63 => (kbin .neq v63 v1).bind fun v65 => kcond v65 (G .ret v0 v1 (.int .i64 (-1)) v5 h) ((kbin .add v1 (.int .i64 1)).bind fun v67 => (kia 9 v0 v5).bind fun v70 => (kfa 6 v70).bind fun v71 => (kfa 0 v71).bind fun v72 => (kload1 h v72).bind fun v73 => (kbin .neq v73 v67).bind fun v75 => kcond v75 (G .ret v0 v67 (.int .i64 (-1)) v5 h) ((kbin .add v67 (.int .i64 1)).bind fun v77 => (kia 9 v0 v5).bind fun v80 => (kfa 6 v80).bind fun v81 => (kfa 1 v81).bind fun v82 => (kload1 h v82).bind fun v83 => (kN NN fn.laws_heldInt64S [v83, v77] h).bind fun v85 => (kbin .lss v85 (.int .i64 0)).bind fun v87 => kcond v87 (G .ret v0 v85 (.int .i64 (-1)) v5 h) ((kia 9 v0 v5).bind fun v90 => (kfa 8 v90).bind fun v91 => (kload1 h v91).bind fun v92 => (kbin .neq v92 v85).bind fun v94 => kcond v94 (G .ret v0 v85 (.int .i64 (-1)) v5 h) ((kbin .add v85 (.int .i64 1)).bind fun v96 => G .nrm v0 v96 v4 v5 h))))
theorem n20_eq (G : KT4 R) (σ : GS) (h : Heap) : KC k 98 c20 σ h (fun x σ h => G x (σ 0) (σ 1) (σ 4) (σ 5) h) = n20 k G (σ 0) (σ 1) (σ 4) (σ 5) h := by kernel_rfl
noncomputable def c21 : Code := cL c19
@[simp] def n19 (G : KT4 R) (v0 v1 v4 v5 : GV) (h : Heap) : Option R := (kbin .lss v1 (.int .i64 0)).bind fun v58 => kcond v58 (G .ret v0 v1 (.int .i64 (-1)) v5 h) (n20 k G v0 v1 v4 v5 h)
theorem n19_eq (G : KT4 R) (σ : GS) (h : Heap) : KC k 98 c19 σ h (fun x σ h => G x (σ 0) (σ 1) (σ 4) (σ 5) h) = n19 k G (σ 0) (σ 1) (σ 4) (σ 5) h := (kseq (a := c21) (b := c20) rfl (fun σ h => n20_eq k G σ h)).trans (by kernel_rfl)
noncomputable def c22 : Code := cL c18
@[simp] def n18 (G : KT4 R) (v0 v1 v4 v5 : GV) (h : Heap) : Option R := (kia 9 v0 v5).bind fun v51 => (kfa 3 v51).bind fun v52 => (kfa 1 v52).bind fun v53 => (kload1 h v53).bind fun v54 => (kN NN fn.laws_heldCellSS [v54, v1] h).bind fun v56 => n19 k G v0 v56 v4 v5 h
theorem n18_eq (G : KT4 R) (σ : GS) (h : Heap) : KC k 98 c18 σ h (fun x σ h => G x (σ 0) (σ 1) (σ 4) (σ 5) h) = n18 k G (σ 0) (σ 1) (σ 4) (σ 5) h := (kseq (a := c22) (b := c19) rfl (fun σ h => n19_eq k G σ h)).trans (by kernel_rfl)
noncomputable def c23 : Code := cL c17
@[simp] def n17 (G : KT4 R) (v0 v1 v4 v5 : GV) (h : Heap) : Option R := (kbin .add v1 (.int .i64 1)).bind fun v48 => n18 k G v0 v48 v4 v5 h
theorem n17_eq (G : KT4 R) (σ : GS) (h : Heap) : KC k 98 c17 σ h (fun x σ h => G x (σ 0) (σ 1) (σ 4) (σ 5) h) = n17 k G (σ 0) (σ 1) (σ 4) (σ 5) h := (kseq (a := c23) (b := c18) rfl (fun σ h => n18_eq k G σ h)).trans (by kernel_rfl)
noncomputable def c24 : Code := cL c16
@[simp] def n16 (G : KT4 R) (v0 v1 v4 v5 : GV) (h : Heap) : Option R := (kia 9 v0 v5).bind fun v41 => (kfa 3 v41).bind fun v42 => (kfa 0 v42).bind fun v43 => (kload1 h v43).bind fun v44 => (kbin .neq v44 v1).bind fun v46 => kcond v46 (G .ret v0 v1 (.int .i64 (-1)) v5 h) (n17 k G v0 v1 v4 v5 h)
theorem n16_eq (G : KT4 R) (σ : GS) (h : Heap) : KC k 98 c16 σ h (fun x σ h => G x (σ 0) (σ 1) (σ 4) (σ 5) h) = n16 k G (σ 0) (σ 1) (σ 4) (σ 5) h := (kseq (a := c24) (b := c17) rfl (fun σ h => n17_eq k G σ h)).trans (by kernel_rfl)
noncomputable def c25 : Code := cL c15
@[simp] def n15 (G : KT4 R) (v0 v1 v4 v5 : GV) (h : Heap) : Option R := (kbin .add v1 (.int .i64 1)).bind fun v38 => n16 k G v0 v38 v4 v5 h
theorem n15_eq (G : KT4 R) (σ : GS) (h : Heap) : KC k 98 c15 σ h (fun x σ h => G x (σ 0) (σ 1) (σ 4) (σ 5) h) = n15 k G (σ 0) (σ 1) (σ 4) (σ 5) h := (kseq (a := c25) (b := c16) rfl (fun σ h => n16_eq k G σ h)).trans (by kernel_rfl)
noncomputable def c26 : Code := cL c14
@[simp] def n14 (G : KT4 R) (v0 v1 v4 v5 : GV) (h : Heap) : Option R := (kia 9 v0 v5).bind fun v32 => (kfa 2 v32).bind fun v33 => (kload1 h v33).bind fun v34 => (kbin .neq v34 v1).bind fun v36 => kcond v36 (G .ret v0 v1 (.int .i64 (-1)) v5 h) (n15 k G v0 v1 v4 v5 h)
theorem n14_eq (G : KT4 R) (σ : GS) (h : Heap) : KC k 98 c14 σ h (fun x σ h => G x (σ 0) (σ 1) (σ 4) (σ 5) h) = n14 k G (σ 0) (σ 1) (σ 4) (σ 5) h := (kseq (a := c26) (b := c15) rfl (fun σ h => n15_eq k G σ h)).trans (by kernel_rfl)
noncomputable def c27 : Code := cL c13
@[simp] def n13 (G : KT4 R) (v0 v1 v4 v5 : GV) (h : Heap) : Option R := (kbin .lss v1 (.int .i64 0)).bind fun v29 => kcond v29 (G .ret v0 v1 (.int .i64 (-1)) v5 h) (n14 k G v0 v1 v4 v5 h)
theorem n13_eq (G : KT4 R) (σ : GS) (h : Heap) : KC k 98 c13 σ h (fun x σ h => G x (σ 0) (σ 1) (σ 4) (σ 5) h) = n13 k G (σ 0) (σ 1) (σ 4) (σ 5) h := (kseq (a := c27) (b := c14) rfl (fun σ h => n14_eq k G σ h)).trans (by kernel_rfl)
noncomputable def c28 : Code := cL c12
@[simp] def n12 (G : KT4 R) (v0 v1 v4 v5 : GV) (h : Heap) : Option R := (kia 9 v0 v5).bind fun v23 => (kfa 1 v23).bind fun v24 => (kload1 h v24).bind fun v25 => (kN NN fn.laws_heldStringS [v25, v1] h).bind fun v27 => n13 k G v0 v27 v4 v5 h
theorem n12_eq (G : KT4 R) (σ : GS) (h : Heap) : KC k 98 c12 σ h (fun x σ h => G x (σ 0) (σ 1) (σ 4) (σ 5) h) = n12 k G (σ 0) (σ 1) (σ 4) (σ 5) h := (kseq (a := c28) (b := c13) rfl (fun σ h => n13_eq k G σ h)).trans (by kernel_rfl)
noncomputable def c29 : Code := cL c11
@[simp] def n11 (G : KT4 R) (v0 v1 v4 v5 : GV) (h : Heap) : Option R := (kbin .add v1 (.int .i64 1)).bind fun v20 => n12 k G v0 v20 v4 v5 h
theorem n11_eq (G : KT4 R) (σ : GS) (h : Heap) : KC k 98 c11 σ h (fun x σ h => G x (σ 0) (σ 1) (σ 4) (σ 5) h) = n11 k G (σ 0) (σ 1) (σ 4) (σ 5) h := (kseq (a := c29) (b := c12) rfl (fun σ h => n12_eq k G σ h)).trans (by kernel_rfl)
noncomputable def c30 : Code := cL c10
@[simp] def n10 (G : KT4 R) (v0 v1 v4 v5 : GV) (h : Heap) : Option R := (kia 9 v0 v5).bind fun v14 => (kfa 0 v14).bind fun v15 => (kload1 h v15).bind fun v16 => (kbin .neq v16 v1).bind fun v18 => kcond v18 (G .ret v0 v1 (.int .i64 (-1)) v5 h) (n11 k G v0 v1 v4 v5 h)
theorem n10_eq (G : KT4 R) (σ : GS) (h : Heap) : KC k 98 c10 σ h (fun x σ h => G x (σ 0) (σ 1) (σ 4) (σ 5) h) = n10 k G (σ 0) (σ 1) (σ 4) (σ 5) h := (kseq (a := c30) (b := c11) rfl (fun σ h => n11_eq k G σ h)).trans (by kernel_rfl)
@[simp] def n9 (G : KT4 R) (v0 v1 v4 v5 : GV) (h : Heap) : Option R := n10 k (fun x v0 v1 v4 v5 h => kb 1 x fun x => G x v0 v1 v4 v5 h) v0 v1 v4 v5 h
theorem n9_eq (G : KT4 R) (σ : GS) (h : Heap) : KC k 98 c9 σ h (fun x σ h => G x (σ 0) (σ 1) (σ 4) (σ 5) h) = n9 k G (σ 0) (σ 1) (σ 4) (σ 5) h := (kblock_eq (a := c10) rfl).trans (n10_eq k (fun x v0 v1 v4 v5 h => kb 1 x fun x => G x v0 v1 v4 v5 h) σ h)
@[simp] def n7 (G : KT4 R) (v0 v1 v4 v5 : GV) (h : Heap) : Option R := n9 k (fun x v0 v1 v4 v5 h => kx x (n8 k G v0 v1 v4 v5 h) (G x v0 v1 v4 v5 h)) v0 v1 v4 v5 h
theorem n7_eq (G : KT4 R) (σ : GS) (h : Heap) : KC k 98 c7 σ h (fun x σ h => G x (σ 0) (σ 1) (σ 4) (σ 5) h) = n7 k G (σ 0) (σ 1) (σ 4) (σ 5) h := (kseq (b := c8) rfl (fun σ h => n8_eq k G σ h)).trans (n9_eq k (fun x v0 v1 v4 v5 h => kx x (n8 k G v0 v1 v4 v5 h) (G x v0 v1 v4 v5 h)) σ h)
noncomputable def c31 : Code := cL c6
@[simp] def n6 (G : KT4 R) (v0 v1 v4 v5 : GV) (h : Heap) : Option R := (klen v0).bind fun v8 => (kbin .lss v5 v8).bind fun v9 => kcond v9 (n7 k G v0 v1 v4 v5 h) (G (.ext 0) v0 v1 v4 v5 h)
theorem n6_eq (G : KT4 R) (σ : GS) (h : Heap) : KC k 98 c6 σ h (fun x σ h => G x (σ 0) (σ 1) (σ 4) (σ 5) h) = n6 k G (σ 0) (σ 1) (σ 4) (σ 5) h := (kseq (a := c31) (b := c7) rfl (fun σ h => n7_eq k G σ h)).trans (by kernel_rfl)
def l5 {R : Type} (k : Nat) (G : KT2 R) : Nat → GV → GV → GV → GV → Heap → Option R
  | 0, _, _, _, _, _ => none
  | r + 1, v0, v1, v4, v5, h => n6 k (fun x v0 v1 v4 v5 h => kx x (l5 k G r v0 v1 v4 v5 h) (G x v1 v4 h)) v0 v1 v4 v5 h
theorem l5_eq {R : Type} (k : Nat) (G : KT2 R) : ∀ (r : Nat) (σ : GS) (h : Heap), kloop (fun σ h K => KC k 98 c6 σ h K) r σ h (fun x σ h => G x (σ 1) (σ 4) h) = l5 k G r (σ 0) (σ 1) (σ 4) (σ 5) h
  | 0, _, _ => rfl
  | r + 1, σ, h => (kloop_eq (fun σ h => l5_eq k G r σ h)).trans (n6_eq k (fun x v0 v1 v4 v5 h => kx x (l5 k G r v0 v1 v4 v5 h) (G x v1 v4 h)) σ h)
@[simp] def n5 (G : KT2 R) (v0 v1 v4 v5 : GV) (h : Heap) : Option R := l5 k G k v0 v1 v4 v5 h
theorem n5_eq (G : KT2 R) (σ : GS) (h : Heap) : KC k 98 c5 σ h (fun x σ h => G x (σ 1) (σ 4) h) = n5 k G (σ 0) (σ 1) (σ 4) (σ 5) h := (kloopc_eq (a := c6) rfl).trans (l5_eq k G k σ h)
@[simp] def n4 (G : KT2 R) (v0 v1 v4 v5 : GV) (h : Heap) : Option R := n5 k (fun x v1 v4 h => kb 0 x fun x => G x v1 v4 h) v0 v1 v4 v5 h
theorem n4_eq (G : KT2 R) (σ : GS) (h : Heap) : KC k 98 c4 σ h (fun x σ h => G x (σ 1) (σ 4) h) = n4 k G (σ 0) (σ 1) (σ 4) (σ 5) h := (kblock_eq (a := c5) rfl).trans (n5_eq k (fun x v1 v4 h => kb 0 x fun x => G x v1 v4 h) σ h)
noncomputable def c32 : Code := cL c3
@[simp] def n3 (G : KT2 R) (v0 v1 v4 : GV) (h : Heap) : Option R := n4 k G v0 v1 v4 (.int .i64 0) h
theorem n3_eq (G : KT2 R) (σ : GS) (h : Heap) : KC k 98 c3 σ h (fun x σ h => G x (σ 1) (σ 4) h) = n3 k G (σ 0) (σ 1) (σ 4) h := (kseq (a := c32) (b := c4) rfl (fun σ h => n4_eq k G σ h)).trans (by kernel_rfl)
@[simp] def n1 (G : KT1 R) (v0 v1 v4 : GV) (h : Heap) : Option R := n3 k (fun x v1 v4 h => kx x (n2 k G v1 h) (G x v4 h)) v0 v1 v4 h
theorem n1_eq (G : KT1 R) (σ : GS) (h : Heap) : KC k 98 c1 σ h (fun x σ h => G x (σ 4) h) = n1 k G (σ 0) (σ 1) (σ 4) h := (kseq (b := c2) rfl (fun σ h => n2_eq k G σ h)).trans (n3_eq k (fun x v1 v4 h => kx x (n2 k G v1 h) (G x v4 h)) σ h)
noncomputable def c33 : Code := cL c0
@[simp] def n0 (G : KT1 R) (v0 v1 : GV) (h : Heap) : Option R := n1 k G v0 v1 (.int .i64 0) h
theorem n0_eq (G : KT1 R) (σ : GS) (h : Heap) : KC k 98 c0 σ h (fun x σ h => G x (σ 4) h) = n0 k G (σ 0) (σ 1) h := (kseq (a := c33) (b := c1) rfl (fun σ h => n1_eq k G σ h)).trans (by kernel_rfl)
def run {R : Type} (k : Nat) (a0 : GV) (a1 : GV) (h : Heap) (fin : GV → Heap → Option R) : Option R := n0 k (fun x v4 h => kend x (fin v4 h)) a0 a1 h
theorem run_eq {R : Type} (k : Nat) (a0 : GV) (a1 : GV) (h : Heap) (fin : GV → Heap → Option R) : kfun PP cfg NN HH k fn.laws_heldClientS [a0, a1] h fin = run k a0 a1 h fin := (kfun_eq (nt := 98) (c := c0) (show PP.funcs[fn.laws_heldClientS]? = some Try.f160 by kernel_rfl) (by kernel_rfl) (by kernel_rfl) (fun x σ h => by cases x <;> kernel_rfl)).trans (n0_eq k (fun x v4 h => kend x (fin v4 h)) _ h)
theorem gives {k : Nat} {a0 : GV} {a1 : GV} {v : GV} (e : run k a0 a1 [] finN = some v) : NN fn.laws_heldClientS [a0, a1] = some v := nω_of (by kernel_rfl) ((run_eq k a0 a1 [] finN).trans e)
end S.laws_heldClientS
/-! laws_eqDatagramS -/
namespace S.laws_eqDatagramS
noncomputable def c0 : Code := bodyOf Try.f156
noncomputable def c1 : Code := cR c0
noncomputable def c2 : Code := cR c1
noncomputable def c3 : Code := cR c2
@[simp] def n3 {R : Type} (k : Nat) (G : KT1 R) (h : Heap) : Option R := G .ret (.bool true) h
theorem n3_eq (G : KT1 R) (σ : GS) (h : Heap) : KC k 27 c3 σ h (fun x σ h => G x (σ 4) h) = n3 k G h := by kernel_rfl
noncomputable def c4 : Code := cL c2
noncomputable def c5 : Code := cR c4
noncomputable def c6 : Code := cL c5
noncomputable def c7 : Code := cL c6
noncomputable def c8 : Code := cR c7
noncomputable def c9 : Code := cR c8
@[simp] def n9 {R : Type} (k : Nat) (G : KT4 R) (v0 v1 v4 v5 : GV) (h : Heap) : Option R := (kbin .add v5 (.int .i64 1)).bind fun v16 => G .nrm v0 v1 v4 v16 h
theorem n9_eq (G : KT4 R) (σ : GS) (h : Heap) : KC k 27 c9 σ h (fun x σ h => G x (σ 0) (σ 1) (σ 4) (σ 5) h) = n9 k G (σ 0) (σ 1) (σ 4) (σ 5) h := by kernel_rfl
noncomputable def c10 : Code := cL c8
noncomputable def c11 : Code := cL c10
@[simp] def n11 {R : Type} (k : Nat) (G : KT4 R) (v0 v1 v4 v5 : GV) (h : Heap) : Option R := (kia 2 v0 v5).bind fun v19 => (kloadA 2 h v19).bind fun v20 => (kia 2 v1 v5).bind fun v23 => (kloadA 2 h v23).bind fun v24 => (kN NN fn.laws_eqDatagram [v20, v24] h).bind fun v25 => (kun .not v25).bind fun v26 => kcond v26 (G .ret v0 v1 (.bool false) v5 h) (G .nrm v0 v1 v4 v5 h)
theorem n11_eq (G : KT4 R) (σ : GS) (h : Heap) : KC k 27 c11 σ h (fun x σ h => G x (σ 0) (σ 1) (σ 4) (σ 5) h) = n11 k G (σ 0) (σ 1) (σ 4) (σ 5) h := by kernel_rfl
@[simp] def n10 (G : KT4 R) (v0 v1 v4 v5 : GV) (h : Heap) : Option R := n11 k (fun x v0 v1 v4 v5 h => kb 1 x fun x => G x v0 v1 v4 v5 h) v0 v1 v4 v5 h
theorem n10_eq (G : KT4 R) (σ : GS) (h : Heap) : KC k 27 c10 σ h (fun x σ h => G x (σ 0) (σ 1) (σ 4) (σ 5) h) = n10 k G (σ 0) (σ 1) (σ 4) (σ 5) h := (kblock_eq (a := c11) rfl).trans (n11_eq k (fun x v0 v1 v4 v5 h => kb 1 x fun x => G x v0 v1 v4 v5 h) σ h)
@[simp] def n8 (G : KT4 R) (v0 v1 v4 v5 : GV) (h : Heap) : Option R := n10 k (fun x v0 v1 v4 v5 h => kx x (n9 k G v0 v1 v4 v5 h) (G x v0 v1 v4 v5 h)) v0 v1 v4 v5 h
theorem n8_eq (G : KT4 R) (σ : GS) (h : Heap) : KC k 27 c8 σ h (fun x σ h => G x (σ 0) (σ 1) (σ 4) (σ 5) h) = n8 k G (σ 0) (σ 1) (σ 4) (σ 5) h := (kseq (b := c9) rfl (fun σ h => n9_eq k G σ h)).trans (n10_eq k (fun x v0 v1 v4 v5 h => kx x (n9 k G v0 v1 v4 v5 h) (G x v0 v1 v4 v5 h)) σ h)
noncomputable def c12 : Code := cL c7
@[simp] def n7 (G : KT4 R) (v0 v1 v4 v5 : GV) (h : Heap) : Option R := (klen v0).bind fun v13 => (kbin .lss v5 v13).bind fun v14 => kcond v14 (n8 k G v0 v1 v4 v5 h) (G (.ext 0) v0 v1 v4 v5 h)
theorem n7_eq (G : KT4 R) (σ : GS) (h : Heap) : KC k 27 c7 σ h (fun x σ h => G x (σ 0) (σ 1) (σ 4) (σ 5) h) = n7 k G (σ 0) (σ 1) (σ 4) (σ 5) h := (kseq (a := c12) (b := c8) rfl (fun σ h => n8_eq k G σ h)).trans (by kernel_rfl)
def l6 {R : Type} (k : Nat) (G : KT1 R) : Nat → GV → GV → GV → GV → Heap → Option R
  | 0, _, _, _, _, _ => none
  | r + 1, v0, v1, v4, v5, h => n7 k (fun x v0 v1 v4 v5 h => kx x (l6 k G r v0 v1 v4 v5 h) (G x v4 h)) v0 v1 v4 v5 h
theorem l6_eq {R : Type} (k : Nat) (G : KT1 R) : ∀ (r : Nat) (σ : GS) (h : Heap), kloop (fun σ h K => KC k 27 c7 σ h K) r σ h (fun x σ h => G x (σ 4) h) = l6 k G r (σ 0) (σ 1) (σ 4) (σ 5) h
  | 0, _, _ => rfl
  | r + 1, σ, h => (kloop_eq (fun σ h => l6_eq k G r σ h)).trans (n7_eq k (fun x v0 v1 v4 v5 h => kx x (l6 k G r v0 v1 v4 v5 h) (G x v4 h)) σ h)
@[simp] def n6 (G : KT1 R) (v0 v1 v4 v5 : GV) (h : Heap) : Option R := l6 k G k v0 v1 v4 v5 h
theorem n6_eq (G : KT1 R) (σ : GS) (h : Heap) : KC k 27 c6 σ h (fun x σ h => G x (σ 4) h) = n6 k G (σ 0) (σ 1) (σ 4) (σ 5) h := (kloopc_eq (a := c7) rfl).trans (l6_eq k G k σ h)
@[simp] def n5 (G : KT1 R) (v0 v1 v4 v5 : GV) (h : Heap) : Option R := n6 k (fun x v4 h => kb 0 x fun x => G x v4 h) v0 v1 v4 v5 h
theorem n5_eq (G : KT1 R) (σ : GS) (h : Heap) : KC k 27 c5 σ h (fun x σ h => G x (σ 4) h) = n5 k G (σ 0) (σ 1) (σ 4) (σ 5) h := (kblock_eq (a := c6) rfl).trans (n6_eq k (fun x v4 h => kb 0 x fun x => G x v4 h) σ h)
noncomputable def c13 : Code := cL c4
@[simp] def n4 (G : KT1 R) (v0 v1 v4 : GV) (h : Heap) : Option R := n5 k G v0 v1 v4 (.int .i64 0) h
theorem n4_eq (G : KT1 R) (σ : GS) (h : Heap) : KC k 27 c4 σ h (fun x σ h => G x (σ 4) h) = n4 k G (σ 0) (σ 1) (σ 4) h := (kseq (a := c13) (b := c5) rfl (fun σ h => n5_eq k G σ h)).trans (by kernel_rfl)
@[simp] def n2 (G : KT1 R) (v0 v1 v4 : GV) (h : Heap) : Option R := n4 k (fun x v4 h => kx x (n3 k G h) (G x v4 h)) v0 v1 v4 h
theorem n2_eq (G : KT1 R) (σ : GS) (h : Heap) : KC k 27 c2 σ h (fun x σ h => G x (σ 4) h) = n2 k G (σ 0) (σ 1) (σ 4) h := (kseq (b := c3) rfl (fun σ h => n3_eq k G σ h)).trans (n4_eq k (fun x v4 h => kx x (n3 k G h) (G x v4 h)) σ h)
noncomputable def c14 : Code := cL c1
@[simp] def n1 (G : KT1 R) (v0 v1 v4 : GV) (h : Heap) : Option R := (klen v0).bind fun v7 => (klen v1).bind fun v9 => (kbin .neq v7 v9).bind fun v10 => kcond v10 (G .ret (.bool false) h) (n2 k G v0 v1 v4 h)
theorem n1_eq (G : KT1 R) (σ : GS) (h : Heap) : KC k 27 c1 σ h (fun x σ h => G x (σ 4) h) = n1 k G (σ 0) (σ 1) (σ 4) h := (kseq (a := c14) (b := c2) rfl (fun σ h => n2_eq k G σ h)).trans (by kernel_rfl)
noncomputable def c15 : Code := cL c0
@[simp] def n0 (G : KT1 R) (v0 v1 : GV) (h : Heap) : Option R := n1 k G v0 v1 (.bool false) h
theorem n0_eq (G : KT1 R) (σ : GS) (h : Heap) : KC k 27 c0 σ h (fun x σ h => G x (σ 4) h) = n0 k G (σ 0) (σ 1) h := (kseq (a := c15) (b := c1) rfl (fun σ h => n1_eq k G σ h)).trans (by kernel_rfl)
def run {R : Type} (k : Nat) (a0 : GV) (a1 : GV) (h : Heap) (fin : GV → Heap → Option R) : Option R := n0 k (fun x v4 h => kend x (fin v4 h)) a0 a1 h
theorem run_eq {R : Type} (k : Nat) (a0 : GV) (a1 : GV) (h : Heap) (fin : GV → Heap → Option R) : kfun PP cfg NN HH k fn.laws_eqDatagramS [a0, a1] h fin = run k a0 a1 h fin := (kfun_eq (nt := 27) (c := c0) (show PP.funcs[fn.laws_eqDatagramS]? = some Try.f156 by kernel_rfl) (by kernel_rfl) (by kernel_rfl) (fun x σ h => by cases x <;> kernel_rfl)).trans (n0_eq k (fun x v4 h => kend x (fin v4 h)) _ h)
theorem gives {k : Nat} {a0 : GV} {a1 : GV} {v : GV} (e : run k a0 a1 [] finN = some v) : NN fn.laws_eqDatagramS [a0, a1] = some v := nω_of (by kernel_rfl) ((run_eq k a0 a1 [] finN).trans e)
end S.laws_eqDatagramS
/-! laws_eqDatagram -/
namespace S.laws_eqDatagram
noncomputable def c0 : Code := bodyOf Try.f217
@[simp] def n0 {R : Type} (k : Nat) (G : KT1 R) (v0 v1 : GV) (h : Heap) : Option R := kbox v0 h fun v2 h => kbox v1 h fun v3 h => (kfa 0 v2).bind fun v5 => (kload1 h v5).bind fun v6 => (kfa 0 v3).bind fun v7 => (kload1 h v7).bind fun v8 => (kbin .neq v6 v8).bind fun v9 => kcond v9 (G .ret (.bool false) h) ((kfa 1 v2).bind fun v10 => (kload1 h v10).bind fun v11 => (kfa 1 v3).bind fun v12 => (kload1 h v12).bind fun v13 => (kbin .neq v11 v13).bind fun v14 => kcond v14 (G .ret (.bool false) h) (G .ret (.bool true) h))
theorem n0_eq (G : KT1 R) (σ : GS) (h : Heap) : KC k 15 c0 σ h (fun x σ h => G x (σ 4) h) = n0 k G (σ 0) (σ 1) h := by kernel_rfl
def run {R : Type} (k : Nat) (a0 : GV) (a1 : GV) (h : Heap) (fin : GV → Heap → Option R) : Option R := n0 k (fun x v4 h => kend x (fin v4 h)) a0 a1 h
theorem run_eq {R : Type} (k : Nat) (a0 : GV) (a1 : GV) (h : Heap) (fin : GV → Heap → Option R) : kfun PP cfg NN HH k fn.laws_eqDatagram [a0, a1] h fin = run k a0 a1 h fin := (kfun_eq (nt := 15) (c := c0) (show PP.funcs[fn.laws_eqDatagram]? = some Try.f217 by kernel_rfl) (by kernel_rfl) (by kernel_rfl) (fun x σ h => by cases x <;> kernel_rfl)).trans (n0_eq k (fun x v4 h => kend x (fin v4 h)) _ h)
theorem gives {k : Nat} {a0 : GV} {a1 : GV} {v : GV} (e : run k a0 a1 [] finN = some v) : NN fn.laws_eqDatagram [a0, a1] = some v := nω_of (by kernel_rfl) ((run_eq k a0 a1 [] finN).trans e)
end S.laws_eqDatagram
/-! laws_markDatagramS -/
namespace S.laws_markDatagramS
noncomputable def c0 : Code := bodyOf Try.f159
noncomputable def c1 : Code := cR c0
noncomputable def c2 : Code := cR c1
@[simp] def n2 {R : Type} (k : Nat) (G : KT1 R) (v1 : GV) (h : Heap) : Option R := G .ret v1 h
theorem n2_eq (G : KT1 R) (σ : GS) (h : Heap) : KC k 28 c2 σ h (fun x σ h => G x (σ 4) h) = n2 k G (σ 1) h := by kernel_rfl
noncomputable def c3 : Code := cL c1
noncomputable def c4 : Code := cR c3
noncomputable def c5 : Code := cL c4
noncomputable def c6 : Code := cL c5
noncomputable def c7 : Code := cR c6
noncomputable def c8 : Code := cR c7
@[simp] def n8 {R : Type} (k : Nat) (G : KT4 R) (v0 v1 v4 v5 : GV) (h : Heap) : Option R := (kbin .add v5 (.int .i64 1)).bind fun v11 => G .nrm v0 v1 v4 v11 h
theorem n8_eq (G : KT4 R) (σ : GS) (h : Heap) : KC k 28 c8 σ h (fun x σ h => G x (σ 0) (σ 1) (σ 4) (σ 5) h) = n8 k G (σ 0) (σ 1) (σ 4) (σ 5) h := by kernel_rfl
noncomputable def c9 : Code := cL c7
noncomputable def c10 : Code := cL c9
@[simp] def n10 {R : Type} (k : Nat) (G : KT4 R) (v0 v1 v4 v5 : GV) (h : Heap) : Option R := (kia 2 v0 v5).bind fun v15 => (kfa 0 v15).bind fun v16 => (kstore 1 h v16 v1).bind fun h => (kbin .add v1 (.int .i64 1)).bind fun v18 => (kN NN fn.laws_markText [v18] h).bind fun v22 => (kia 2 v0 v5).bind fun v23 => (kfa 1 v23).bind fun v24 => (kstore 1 h v24 v22).bind fun h => (kbin .add v18 (.int .i64 1)).bind fun v26 => G .nrm v0 v26 v4 v5 h
theorem n10_eq (G : KT4 R) (σ : GS) (h : Heap) : KC k 28 c10 σ h (fun x σ h => G x (σ 0) (σ 1) (σ 4) (σ 5) h) = n10 k G (σ 0) (σ 1) (σ 4) (σ 5) h := by kernel_rfl
@[simp] def n9 (G : KT4 R) (v0 v1 v4 v5 : GV) (h : Heap) : Option R := n10 k (fun x v0 v1 v4 v5 h => kb 1 x fun x => G x v0 v1 v4 v5 h) v0 v1 v4 v5 h
theorem n9_eq (G : KT4 R) (σ : GS) (h : Heap) : KC k 28 c9 σ h (fun x σ h => G x (σ 0) (σ 1) (σ 4) (σ 5) h) = n9 k G (σ 0) (σ 1) (σ 4) (σ 5) h := (kblock_eq (a := c10) rfl).trans (n10_eq k (fun x v0 v1 v4 v5 h => kb 1 x fun x => G x v0 v1 v4 v5 h) σ h)
@[simp] def n7 (G : KT4 R) (v0 v1 v4 v5 : GV) (h : Heap) : Option R := n9 k (fun x v0 v1 v4 v5 h => kx x (n8 k G v0 v1 v4 v5 h) (G x v0 v1 v4 v5 h)) v0 v1 v4 v5 h
theorem n7_eq (G : KT4 R) (σ : GS) (h : Heap) : KC k 28 c7 σ h (fun x σ h => G x (σ 0) (σ 1) (σ 4) (σ 5) h) = n7 k G (σ 0) (σ 1) (σ 4) (σ 5) h := (kseq (b := c8) rfl (fun σ h => n8_eq k G σ h)).trans (n9_eq k (fun x v0 v1 v4 v5 h => kx x (n8 k G v0 v1 v4 v5 h) (G x v0 v1 v4 v5 h)) σ h)
noncomputable def c11 : Code := cL c6
@[simp] def n6 (G : KT4 R) (v0 v1 v4 v5 : GV) (h : Heap) : Option R := (klen v0).bind fun v8 => (kbin .lss v5 v8).bind fun v9 => kcond v9 (n7 k G v0 v1 v4 v5 h) (G (.ext 0) v0 v1 v4 v5 h)
theorem n6_eq (G : KT4 R) (σ : GS) (h : Heap) : KC k 28 c6 σ h (fun x σ h => G x (σ 0) (σ 1) (σ 4) (σ 5) h) = n6 k G (σ 0) (σ 1) (σ 4) (σ 5) h := (kseq (a := c11) (b := c7) rfl (fun σ h => n7_eq k G σ h)).trans (by kernel_rfl)
def l5 {R : Type} (k : Nat) (G : KT2 R) : Nat → GV → GV → GV → GV → Heap → Option R
  | 0, _, _, _, _, _ => none
  | r + 1, v0, v1, v4, v5, h => n6 k (fun x v0 v1 v4 v5 h => kx x (l5 k G r v0 v1 v4 v5 h) (G x v1 v4 h)) v0 v1 v4 v5 h
theorem l5_eq {R : Type} (k : Nat) (G : KT2 R) : ∀ (r : Nat) (σ : GS) (h : Heap), kloop (fun σ h K => KC k 28 c6 σ h K) r σ h (fun x σ h => G x (σ 1) (σ 4) h) = l5 k G r (σ 0) (σ 1) (σ 4) (σ 5) h
  | 0, _, _ => rfl
  | r + 1, σ, h => (kloop_eq (fun σ h => l5_eq k G r σ h)).trans (n6_eq k (fun x v0 v1 v4 v5 h => kx x (l5 k G r v0 v1 v4 v5 h) (G x v1 v4 h)) σ h)
@[simp] def n5 (G : KT2 R) (v0 v1 v4 v5 : GV) (h : Heap) : Option R := l5 k G k v0 v1 v4 v5 h
theorem n5_eq (G : KT2 R) (σ : GS) (h : Heap) : KC k 28 c5 σ h (fun x σ h => G x (σ 1) (σ 4) h) = n5 k G (σ 0) (σ 1) (σ 4) (σ 5) h := (kloopc_eq (a := c6) rfl).trans (l5_eq k G k σ h)
@[simp] def n4 (G : KT2 R) (v0 v1 v4 v5 : GV) (h : Heap) : Option R := n5 k (fun x v1 v4 h => kb 0 x fun x => G x v1 v4 h) v0 v1 v4 v5 h
theorem n4_eq (G : KT2 R) (σ : GS) (h : Heap) : KC k 28 c4 σ h (fun x σ h => G x (σ 1) (σ 4) h) = n4 k G (σ 0) (σ 1) (σ 4) (σ 5) h := (kblock_eq (a := c5) rfl).trans (n5_eq k (fun x v1 v4 h => kb 0 x fun x => G x v1 v4 h) σ h)
noncomputable def c12 : Code := cL c3
@[simp] def n3 (G : KT2 R) (v0 v1 v4 : GV) (h : Heap) : Option R := n4 k G v0 v1 v4 (.int .i64 0) h
theorem n3_eq (G : KT2 R) (σ : GS) (h : Heap) : KC k 28 c3 σ h (fun x σ h => G x (σ 1) (σ 4) h) = n3 k G (σ 0) (σ 1) (σ 4) h := (kseq (a := c12) (b := c4) rfl (fun σ h => n4_eq k G σ h)).trans (by kernel_rfl)
@[simp] def n1 (G : KT1 R) (v0 v1 v4 : GV) (h : Heap) : Option R := n3 k (fun x v1 v4 h => kx x (n2 k G v1 h) (G x v4 h)) v0 v1 v4 h
theorem n1_eq (G : KT1 R) (σ : GS) (h : Heap) : KC k 28 c1 σ h (fun x σ h => G x (σ 4) h) = n1 k G (σ 0) (σ 1) (σ 4) h := (kseq (b := c2) rfl (fun σ h => n2_eq k G σ h)).trans (n3_eq k (fun x v1 v4 h => kx x (n2 k G v1 h) (G x v4 h)) σ h)
noncomputable def c13 : Code := cL c0
@[simp] def n0 (G : KT1 R) (v0 v1 : GV) (h : Heap) : Option R := n1 k G v0 v1 (.int .i64 0) h
theorem n0_eq (G : KT1 R) (σ : GS) (h : Heap) : KC k 28 c0 σ h (fun x σ h => G x (σ 4) h) = n0 k G (σ 0) (σ 1) h := (kseq (a := c13) (b := c1) rfl (fun σ h => n1_eq k G σ h)).trans (by kernel_rfl)
def run {R : Type} (k : Nat) (a0 : GV) (a1 : GV) (h : Heap) (fin : GV → Heap → Option R) : Option R := n0 k (fun x v4 h => kend x (fin v4 h)) a0 a1 h
theorem run_eq {R : Type} (k : Nat) (a0 : GV) (a1 : GV) (h : Heap) (fin : GV → Heap → Option R) : kfun PP cfg NN HH k fn.laws_markDatagramS [a0, a1] h fin = run k a0 a1 h fin := (kfun_eq (nt := 28) (c := c0) (show PP.funcs[fn.laws_markDatagramS]? = some Try.f159 by kernel_rfl) (by kernel_rfl) (by kernel_rfl) (fun x σ h => by cases x <;> kernel_rfl)).trans (n0_eq k (fun x v4 h => kend x (fin v4 h)) _ h)
theorem gives {k : Nat} {a0 : GV} {a1 : GV} {h : Heap} {r : GV × Heap} (e : run k a0 a1 h finH = some r) : HH fn.laws_markDatagramS [a0, a1] h = some r := kω_of ((run_eq k a0 a1 h finH).trans e)
end S.laws_markDatagramS
/-! laws_heldDatagramS -/
namespace S.laws_heldDatagramS
noncomputable def c0 : Code := bodyOf Try.f162
noncomputable def c1 : Code := cR c0
noncomputable def c2 : Code := cR c1
@[simp] def n2 {R : Type} (k : Nat) (G : KT1 R) (v1 : GV) (h : Heap) : Option R := G .ret v1 h
theorem n2_eq (G : KT1 R) (σ : GS) (h : Heap) : KC k 32 c2 σ h (fun x σ h => G x (σ 4) h) = n2 k G (σ 1) h := by kernel_rfl
noncomputable def c3 : Code := cL c1
noncomputable def c4 : Code := cR c3
noncomputable def c5 : Code := cL c4
noncomputable def c6 : Code := cL c5
noncomputable def c7 : Code := cR c6
noncomputable def c8 : Code := cR c7
@[simp] def n8 {R : Type} (k : Nat) (G : KT4 R) (v0 v1 v4 v5 : GV) (h : Heap) : Option R := (kbin .add v5 (.int .i64 1)).bind fun v11 => G .nrm v0 v1 v4 v11 h
theorem n8_eq (G : KT4 R) (σ : GS) (h : Heap) : KC k 32 c8 σ h (fun x σ h => G x (σ 0) (σ 1) (σ 4) (σ 5) h) = n8 k G (σ 0) (σ 1) (σ 4) (σ 5) h := by kernel_rfl
noncomputable def c9 : Code := cL c7
noncomputable def c10 : Code := cL c9
@[simp] def n10 {R : Type} (k : Nat) (G : KT4 R) (v0 v1 v4 v5 : GV) (h : Heap) : Option R := (kia 2 v0 v5).bind fun v14 => (kfa 0 v14).bind fun v15 => (kload1 h v15).bind fun v16 => (kbin .neq v16 v1).bind fun v18 => kcond v18 (G .ret v0 v1 (.int .i64 (-1)) v5 h) ((kbin .add v1 (.int .i64 1)).bind fun v20 => (kia 2 v0 v5).bind fun v23 => (kfa 1 v23).bind fun v24 => (kload1 h v24).bind fun v25 => (kN NN fn.laws_markText [v20] h).bind fun v27 => (kbin .neq v25 v27).bind fun v28 => kcond v28 (G .ret v0 v20 (.int .i64 (-1)) v5 h) ((kbin .add v20 (.int .i64 1)).bind fun v30 => G .nrm v0 v30 v4 v5 h))
theorem n10_eq (G : KT4 R) (σ : GS) (h : Heap) : KC k 32 c10 σ h (fun x σ h => G x (σ 0) (σ 1) (σ 4) (σ 5) h) = n10 k G (σ 0) (σ 1) (σ 4) (σ 5) h := by kernel_rfl
@[simp] def n9 (G : KT4 R) (v0 v1 v4 v5 : GV) (h : Heap) : Option R := n10 k (fun x v0 v1 v4 v5 h => kb 1 x fun x => G x v0 v1 v4 v5 h) v0 v1 v4 v5 h
theorem n9_eq (G : KT4 R) (σ : GS) (h : Heap) : KC k 32 c9 σ h (fun x σ h => G x (σ 0) (σ 1) (σ 4) (σ 5) h) = n9 k G (σ 0) (σ 1) (σ 4) (σ 5) h := (kblock_eq (a := c10) rfl).trans (n10_eq k (fun x v0 v1 v4 v5 h => kb 1 x fun x => G x v0 v1 v4 v5 h) σ h)
@[simp] def n7 (G : KT4 R) (v0 v1 v4 v5 : GV) (h : Heap) : Option R := n9 k (fun x v0 v1 v4 v5 h => kx x (n8 k G v0 v1 v4 v5 h) (G x v0 v1 v4 v5 h)) v0 v1 v4 v5 h
theorem n7_eq (G : KT4 R) (σ : GS) (h : Heap) : KC k 32 c7 σ h (fun x σ h => G x (σ 0) (σ 1) (σ 4) (σ 5) h) = n7 k G (σ 0) (σ 1) (σ 4) (σ 5) h := (kseq (b := c8) rfl (fun σ h => n8_eq k G σ h)).trans (n9_eq k (fun x v0 v1 v4 v5 h => kx x (n8 k G v0 v1 v4 v5 h) (G x v0 v1 v4 v5 h)) σ h)
noncomputable def c11 : Code := cL c6
@[simp] def n6 (G : KT4 R) (v0 v1 v4 v5 : GV) (h : Heap) : Option R := (klen v0).bind fun v8 => (kbin .lss v5 v8).bind fun v9 => kcond v9 (n7 k G v0 v1 v4 v5 h) (G (.ext 0) v0 v1 v4 v5 h)
theorem n6_eq (G : KT4 R) (σ : GS) (h : Heap) : KC k 32 c6 σ h (fun x σ h => G x (σ 0) (σ 1) (σ 4) (σ 5) h) = n6 k G (σ 0) (σ 1) (σ 4) (σ 5) h := (kseq (a := c11) (b := c7) rfl (fun σ h => n7_eq k G σ h)).trans (by kernel_rfl)
def l5 {R : Type} (k : Nat) (G : KT2 R) : Nat → GV → GV → GV → GV → Heap → Option R
  | 0, _, _, _, _, _ => none
  | r + 1, v0, v1, v4, v5, h => n6 k (fun x v0 v1 v4 v5 h => kx x (l5 k G r v0 v1 v4 v5 h) (G x v1 v4 h)) v0 v1 v4 v5 h
theorem l5_eq {R : Type} (k : Nat) (G : KT2 R) : ∀ (r : Nat) (σ : GS) (h : Heap), kloop (fun σ h K => KC k 32 c6 σ h K) r σ h (fun x σ h => G x (σ 1) (σ 4) h) = l5 k G r (σ 0) (σ 1) (σ 4) (σ 5) h
  | 0, _, _ => rfl
  | r + 1, σ, h => (kloop_eq (fun σ h => l5_eq k G r σ h)).trans (n6_eq k (fun x v0 v1 v4 v5 h => kx x (l5 k G r v0 v1 v4 v5 h) (G x v1 v4 h)) σ h)
@[simp] def n5 (G : KT2 R) (v0 v1 v4 v5 : GV) (h : Heap) : Option R := l5 k G k v0 v1 v4 v5 h
theorem n5_eq (G : KT2 R) (σ : GS) (h : Heap) : KC k 32 c5 σ h (fun x σ h => G x (σ 1) (σ 4) h) = n5 k G (σ 0) (σ 1) (σ 4) (σ 5) h := (kloopc_eq (a := c6) rfl).trans (l5_eq k G k σ h)
@[simp] def n4 (G : KT2 R) (v0 v1 v4 v5 : GV) (h : Heap) : Option R := n5 k (fun x v1 v4 h => kb 0 x fun x => G x v1 v4 h) v0 v1 v4 v5 h
theorem n4_eq (G : KT2 R) (σ : GS) (h : Heap) : KC k 32 c4 σ h (fun x σ h => G x (σ 1) (σ 4) h) = n4 k G (σ 0) (σ 1) (σ 4) (σ 5) h := (kblock_eq (a := c5) rfl).trans (n5_eq k (fun x v1 v4 h => kb 0 x fun x => G x v1 v4 h) σ h)
noncomputable def c12 : Code := cL c3
@[simp] def n3 (G : KT2 R) (v0 v1 v4 : GV) (h : Heap) : Option R := n4 k G v0 v1 v4 (.int .i64 0) h
theorem n3_eq (G : KT2 R) (σ : GS) (h : Heap) : KC k 32 c3 σ h (fun x σ h => G x (σ 1) (σ 4) h) = n3 k G (σ 0) (σ 1) (σ 4) h := (kseq (a := c12) (b := c4) rfl (fun σ h => n4_eq k G σ h)).trans (by kernel_rfl)
@[simp] def n1 (G : KT1 R) (v0 v1 v4 : GV) (h : Heap) : Option R := n3 k (fun x v1 v4 h => kx x (n2 k G v1 h) (G x v4 h)) v0 v1 v4 h
theorem n1_eq (G : KT1 R) (σ : GS) (h : Heap) : KC k 32 c1 σ h (fun x σ h => G x (σ 4) h) = n1 k G (σ 0) (σ 1) (σ 4) h := (kseq (b := c2) rfl (fun σ h => n2_eq k G σ h)).trans (n3_eq k (fun x v1 v4 h => kx x (n2 k G v1 h) (G x v4 h)) σ h)
noncomputable def c13 : Code := cL c0
@[simp] def n0 (G : KT1 R) (v0 v1 : GV) (h : Heap) : Option R := n1 k G v0 v1 (.int .i64 0) h
theorem n0_eq (G : KT1 R) (σ : GS) (h : Heap) : KC k 32 c0 σ h (fun x σ h => G x (σ 4) h) = n0 k G (σ 0) (σ 1) h := (kseq (a := c13) (b := c1) rfl (fun σ h => n1_eq k G σ h)).trans (by kernel_rfl)
def run {R : Type} (k : Nat) (a0 : GV) (a1 : GV) (h : Heap) (fin : GV → Heap → Option R) : Option R := n0 k (fun x v4 h => kend x (fin v4 h)) a0 a1 h
theorem run_eq {R : Type} (k : Nat) (a0 : GV) (a1 : GV) (h : Heap) (fin : GV → Heap → Option R) : kfun PP cfg NN HH k fn.laws_heldDatagramS [a0, a1] h fin = run k a0 a1 h fin := (kfun_eq (nt := 32) (c := c0) (show PP.funcs[fn.laws_heldDatagramS]? = some Try.f162 by kernel_rfl) (by kernel_rfl) (by kernel_rfl) (fun x σ h => by cases x <;> kernel_rfl)).trans (n0_eq k (fun x v4 h => kend x (fin v4 h)) _ h)
theorem gives {k : Nat} {a0 : GV} {a1 : GV} {v : GV} (e : run k a0 a1 [] finN = some v) : NN fn.laws_heldDatagramS [a0, a1] = some v := nω_of (by kernel_rfl) ((run_eq k a0 a1 [] finN).trans e)
end S.laws_heldDatagramS
/-! laws_eqWindow -/
namespace S.laws_eqWindow
noncomputable def c0 : Code := bodyOf Try.f59
@[simp] def n0 {R : Type} (k : Nat) (G : KT1 R) (v0 v1 : GV) (h : Heap) : Option R := kbox v0 h fun v2 h => kbox v1 h fun v3 h => (kfa 0 v2).bind fun v5 => (kload1 h v5).bind fun v6 => (kfa 0 v3).bind fun v7 => (kload1 h v7).bind fun v8 => (kbin .neq v6 v8).bind fun v9 => kcond v9 (G .ret (.bool false) h) ((kfa 1 v2).bind fun v10 => (kload1 h v10).bind fun v11 => (kfa 1 v3).bind fun v12 => (kload1 h v12).bind fun v13 => (kN NN fn.laws_eqInt64S [v11, v13] h).bind fun v14 => (kun .not v14).bind fun v15 => kcond v15 (G .ret (.bool false) h) (G .ret (.bool true) h))
theorem n0_eq (G : KT1 R) (σ : GS) (h : Heap) : KC k 16 c0 σ h (fun x σ h => G x (σ 4) h) = n0 k G (σ 0) (σ 1) h := by kernel_rfl
def run {R : Type} (k : Nat) (a0 : GV) (a1 : GV) (h : Heap) (fin : GV → Heap → Option R) : Option R := n0 k (fun x v4 h => kend x (fin v4 h)) a0 a1 h
theorem run_eq {R : Type} (k : Nat) (a0 : GV) (a1 : GV) (h : Heap) (fin : GV → Heap → Option R) : kfun PP cfg NN HH k fn.laws_eqWindow [a0, a1] h fin = run k a0 a1 h fin := (kfun_eq (nt := 16) (c := c0) (show PP.funcs[fn.laws_eqWindow]? = some Try.f59 by kernel_rfl) (by kernel_rfl) (by kernel_rfl) (fun x σ h => by cases x <;> kernel_rfl)).trans (n0_eq k (fun x v4 h => kend x (fin v4 h)) _ h)
theorem gives {k : Nat} {a0 : GV} {a1 : GV} {v : GV} (e : run k a0 a1 [] finN = some v) : NN fn.laws_eqWindow [a0, a1] = some v := nω_of (by kernel_rfl) ((run_eq k a0 a1 [] finN).trans e)
end S.laws_eqWindow
/-! laws_markText -/
namespace S.laws_markText
noncomputable def c0 : Code := bodyOf Try.f218
noncomputable def c1 : Code := cR c0
noncomputable def c2 : Code := cR c1
noncomputable def c3 : Code := cR c2
noncomputable def c4 : Code := cR c3
@[simp] def n4 {R : Type} (k : Nat) (G : KT1 R) (v3 : GV) (h : Heap) : Option R := (kbin .add (.str { data := #[109] }) v3).bind fun v19 => G .ret v19 h
theorem n4_eq (G : KT1 R) (σ : GS) (h : Heap) : KC k 20 c4 σ h (fun x σ h => G x (σ 2) h) = n4 k G (σ 3) h := by kernel_rfl
noncomputable def c5 : Code := cL c3
noncomputable def c6 : Code := cL c5
noncomputable def c7 : Code := cL c6
noncomputable def c8 : Code := cR c7
noncomputable def c9 : Code := cL c8
@[simp] def n9 {R : Type} (k : Nat) (G : KT3 R) (v0 v2 v3 : GV) (h : Heap) : Option R := (kbin .rem v0 (.int .i64 10)).bind fun v9 => (kbin .add (.int .i64 48) v9).bind fun v10 => (kconvI .u8 v10).bind fun v11 => (gfill (fun i => some (i * 1, 1)) (zeros [(.int .u8 0)] 1) [(0, v11)]).bind fun c => kbs 1 1 c h fun v12 h => (kbstr h v12).bind fun v13 => (kbin .add v13 v3).bind fun v15 => (kbin .quo v0 (.int .i64 10)).bind fun v17 => G .nrm v17 v2 v15 h
theorem n9_eq (G : KT3 R) (σ : GS) (h : Heap) : KC k 20 c9 σ h (fun x σ h => G x (σ 0) (σ 2) (σ 3) h) = n9 k G (σ 0) (σ 2) (σ 3) h := by kernel_rfl
@[simp] def n8 (G : KT3 R) (v0 v2 v3 : GV) (h : Heap) : Option R := n9 k (fun x v0 v2 v3 h => kb 1 x fun x => G x v0 v2 v3 h) v0 v2 v3 h
theorem n8_eq (G : KT3 R) (σ : GS) (h : Heap) : KC k 20 c8 σ h (fun x σ h => G x (σ 0) (σ 2) (σ 3) h) = n8 k G (σ 0) (σ 2) (σ 3) h := (kblock_eq (a := c9) rfl).trans (n9_eq k (fun x v0 v2 v3 h => kb 1 x fun x => G x v0 v2 v3 h) σ h)
noncomputable def c10 : Code := cL c7
@[simp] def n7 (G : KT3 R) (v0 v2 v3 : GV) (h : Heap) : Option R := (kbin .gtr v0 (.int .i64 0)).bind fun v7 => kcond v7 (n8 k G v0 v2 v3 h) (G (.ext 0) v0 v2 v3 h)
theorem n7_eq (G : KT3 R) (σ : GS) (h : Heap) : KC k 20 c7 σ h (fun x σ h => G x (σ 0) (σ 2) (σ 3) h) = n7 k G (σ 0) (σ 2) (σ 3) h := (kseq (a := c10) (b := c8) rfl (fun σ h => n8_eq k G σ h)).trans (by kernel_rfl)
def l6 {R : Type} (k : Nat) (G : KT2 R) : Nat → GV → GV → GV → Heap → Option R
  | 0, _, _, _, _ => none
  | r + 1, v0, v2, v3, h => n7 k (fun x v0 v2 v3 h => kx x (l6 k G r v0 v2 v3 h) (G x v2 v3 h)) v0 v2 v3 h
theorem l6_eq {R : Type} (k : Nat) (G : KT2 R) : ∀ (r : Nat) (σ : GS) (h : Heap), kloop (fun σ h K => KC k 20 c7 σ h K) r σ h (fun x σ h => G x (σ 2) (σ 3) h) = l6 k G r (σ 0) (σ 2) (σ 3) h
  | 0, _, _ => rfl
  | r + 1, σ, h => (kloop_eq (fun σ h => l6_eq k G r σ h)).trans (n7_eq k (fun x v0 v2 v3 h => kx x (l6 k G r v0 v2 v3 h) (G x v2 v3 h)) σ h)
@[simp] def n6 (G : KT2 R) (v0 v2 v3 : GV) (h : Heap) : Option R := l6 k G k v0 v2 v3 h
theorem n6_eq (G : KT2 R) (σ : GS) (h : Heap) : KC k 20 c6 σ h (fun x σ h => G x (σ 2) (σ 3) h) = n6 k G (σ 0) (σ 2) (σ 3) h := (kloopc_eq (a := c7) rfl).trans (l6_eq k G k σ h)
@[simp] def n5 (G : KT2 R) (v0 v2 v3 : GV) (h : Heap) : Option R := n6 k (fun x v2 v3 h => kb 0 x fun x => G x v2 v3 h) v0 v2 v3 h
theorem n5_eq (G : KT2 R) (σ : GS) (h : Heap) : KC k 20 c5 σ h (fun x σ h => G x (σ 2) (σ 3) h) = n5 k G (σ 0) (σ 2) (σ 3) h := (kblock_eq (a := c6) rfl).trans (n6_eq k (fun x v2 v3 h => kb 0 x fun x => G x v2 v3 h) σ h)
@[simp] def n3 (G : KT1 R) (v0 v2 v3 : GV) (h : Heap) : Option R := n5 k (fun x v2 v3 h => kx x (n4 k G v3 h) (G x v2 h)) v0 v2 v3 h
theorem n3_eq (G : KT1 R) (σ : GS) (h : Heap) : KC k 20 c3 σ h (fun x σ h => G x (σ 2) h) = n3 k G (σ 0) (σ 2) (σ 3) h := (kseq (b := c4) rfl (fun σ h => n4_eq k G σ h)).trans (n5_eq k (fun x v2 v3 h => kx x (n4 k G v3 h) (G x v2 h)) σ h)
noncomputable def c11 : Code := cL c2
@[simp] def n2 (G : KT1 R) (v0 v2 : GV) (h : Heap) : Option R := n3 k G v0 v2 (.str { data := #[] }) h
theorem n2_eq (G : KT1 R) (σ : GS) (h : Heap) : KC k 20 c2 σ h (fun x σ h => G x (σ 2) h) = n2 k G (σ 0) (σ 2) h := (kseq (a := c11) (b := c3) rfl (fun σ h => n3_eq k G σ h)).trans (by kernel_rfl)
noncomputable def c12 : Code := cL c1
@[simp] def n1 (G : KT1 R) (v0 v2 : GV) (h : Heap) : Option R := (kbin .leq v0 (.int .i64 0)).bind fun v5 => kcond v5 (G .ret (.str { data := #[109, 48] }) h) (n2 k G v0 v2 h)
theorem n1_eq (G : KT1 R) (σ : GS) (h : Heap) : KC k 20 c1 σ h (fun x σ h => G x (σ 2) h) = n1 k G (σ 0) (σ 2) h := (kseq (a := c12) (b := c2) rfl (fun σ h => n2_eq k G σ h)).trans (by kernel_rfl)
noncomputable def c13 : Code := cL c0
@[simp] def n0 (G : KT1 R) (v0 : GV) (h : Heap) : Option R := n1 k G v0 (.str { data := #[] }) h
theorem n0_eq (G : KT1 R) (σ : GS) (h : Heap) : KC k 20 c0 σ h (fun x σ h => G x (σ 2) h) = n0 k G (σ 0) h := (kseq (a := c13) (b := c1) rfl (fun σ h => n1_eq k G σ h)).trans (by kernel_rfl)
def run {R : Type} (k : Nat) (a0 : GV) (h : Heap) (fin : GV → Heap → Option R) : Option R := n0 k (fun x v2 h => kend x (fin v2 h)) a0 h
theorem run_eq {R : Type} (k : Nat) (a0 : GV) (h : Heap) (fin : GV → Heap → Option R) : kfun PP cfg NN HH k fn.laws_markText [a0] h fin = run k a0 h fin := (kfun_eq (nt := 20) (c := c0) (show PP.funcs[fn.laws_markText]? = some Try.f218 by kernel_rfl) (by kernel_rfl) (by kernel_rfl) (fun x σ h => by cases x <;> kernel_rfl)).trans (n0_eq k (fun x v2 h => kend x (fin v2 h)) _ h)
theorem gives {k : Nat} {a0 : GV} {v : GV} (e : run k a0 [] finN = some v) : NN fn.laws_markText [a0] = some v := nω_of (by kernel_rfl) ((run_eq k a0 [] finN).trans e)
end S.laws_markText
end
end Go.Proofs.Ytlbnioapepelnaa.G
