/- What these functions do, told for open values, out of the machine with continuations. Printed by a program of this session. -/
import Derived.Test.YtopmnigfklgnkaaSA
import Derived.KernelRfl
namespace Go.Proofs.Ytopmnigfklgnkaa.G
open Go.RowKit
set_option linter.unusedVariables false
set_option maxRecDepth 100000
noncomputable section
/-! laws_FnExactCertain -/
namespace S.laws_FnExactCertain
noncomputable def c0 : Code := bodyOf Try.f3
noncomputable def c1 : Code := cR c0
noncomputable def c2 : Code := cR c1
noncomputable def c3 : Code := cR c2
noncomputable def c4 : Code := cR c3
noncomputable def c5 : Code := cR c4
noncomputable def c6 : Code := cR c5
noncomputable def c7 : Code := cR c6
noncomputable def c8 : Code := cR c7
noncomputable def c9 : Code := cR c8
noncomputable def c10 : Code := cR c9
noncomputable def c11 : Code := cR c10
noncomputable def c12 : Code := cR c11
@[simp] def n12 {R : Type} (k : Nat) (G : GX → GV → Heap → Option R) (v1 : GV) (v2 : GV) (v4 : GV) (v6 : GV) (h : Heap) : Option R := (HH fn.laws_markStringS [v6, (.int .i64 1)] h).bind fun r => kr r fun v45 h => (kN NN fn.laws_heldStringS [v6, (.int .i64 1)] h).bind fun v48 => (kbin .lss v48 (.int .i64 0)).bind fun v50 => kcond v50 (G .ret (.bool false) h) ((kbin .neq v48 v45).bind fun v53 => kcond v53 (G .ret (.bool false) h) ((kloadA 3 h v1).bind fun v54 => (kF false HH fn.laws_toChain [v54] h).bind fun r => kr r fun v55 h => (kF false HH fn.impl_Certain [v55] h).bind fun r => kr r fun v56 h => (kN NN fn.laws_eqStringS [v56, v4] h).bind fun v59 => (kun .not v59).bind fun v60 => kcond v60 (G .ret (.bool false) h) ((kN NN fn.laws_heldStringS [v6, (.int .i64 1)] h).bind fun v63 => (kbin .lss v63 (.int .i64 0)).bind fun v65 => kcond v65 (G .ret (.bool false) h) ((kbin .neq v63 v45).bind fun v68 => kcond v68 (G .ret (.bool false) h) (G .ret (.bool true) h)))))
theorem n12_eq {R : Type} (k : Nat) (G : GX → GV → Heap → Option R) (σ : GS) (h : Heap) : KC k 69 c12 σ h (fun x σ h => G x (σ 2) h) = n12 k G (σ 1) (σ 2) (σ 4) (σ 6) h := by kernel_rfl
noncomputable def c13 : Code := cL c11
noncomputable def c14 : Code := cR c13
@[simp] def n14 {R : Type} (k : Nat) (G : GX → GV → GV → GV → GV → Heap → Option R) (v1 : GV) (v2 : GV) (v4 : GV) (v6 : GV) (v42 : GV) (h : Heap) : Option R := kcond v42 (G .ret v1 (.bool false) v4 v6 h) (G .nrm v1 v2 v4 v6 h)
theorem n14_eq {R : Type} (k : Nat) (G : GX → GV → GV → GV → GV → Heap → Option R) (σ : GS) (h : Heap) : KC k 69 c14 σ h (fun x σ h => G x (σ 1) (σ 2) (σ 4) (σ 6) h) = n14 k G (σ 1) (σ 2) (σ 4) (σ 6) (σ 42) h := by kernel_rfl
noncomputable def c15 : Code := cL c13
noncomputable def o15 : Array Oper := cO c15
@[simp] def g15_2 {R : Type} (k : Nat) (G : GX → GV → GV → GV → GV → GV → Heap → Option R) (v1 : GV) (v2 : GV) (v4 : GV) (v6 : GV) (v37 : GV) (v41 : GV) (h : Heap) : Option R := (kpick v37 (.bool true) v41).bind fun v42 => G .nrm v1 v2 v4 v6 v42 h
theorem g15_2_eq {R : Type} (k : Nat) (G : GX → GV → GV → GV → GV → GV → Heap → Option R) (σ : GS) (h : Heap) : kgroups PP cfg NN HH 69 o15 [(none, [7])] σ h (fun σ h => G .nrm (σ 1) (σ 2) (σ 4) (σ 6) (σ 42) h) = g15_2 k G (σ 1) (σ 2) (σ 4) (σ 6) (σ 37) (σ 41) h := by kernel_rfl
@[simp] def g15_1 {R : Type} (k : Nat) (G : GX → GV → GV → GV → GV → GV → Heap → Option R) (v1 : GV) (v2 : GV) (v4 : GV) (v6 : GV) (v37 : GV) (h : Heap) : Option R := bif tr false v37 then (kN NN fn.laws_eqStringS [v6, v4] h).bind fun v40 => (kun .not v40).bind fun v41 => g15_2 k G v1 v2 v4 v6 v37 v41 h else g15_2 k G v1 v2 v4 v6 v37 .un h
theorem g15_1_eq0 {R : Type} (k : Nat) (G : GX → GV → GV → GV → GV → GV → Heap → Option R) (σ : GS) (h : Heap) : kgroup1 PP cfg NN HH 69 o15 (some (2, false), [3, 4, 5, 6]) σ h (fun σ h => g15_2 k G (σ 1) (σ 2) (σ 4) (σ 6) (σ 37) (σ 41) h) = g15_1 k G (σ 1) (σ 2) (σ 4) (σ 6) (σ 37) h := by kernel_rfl
theorem g15_1_eq {R : Type} (k : Nat) (G : GX → GV → GV → GV → GV → GV → Heap → Option R) (σ : GS) (h : Heap) : kgroups PP cfg NN HH 69 o15 [(some (2, false), [3, 4, 5, 6]), (none, [7])] σ h (fun σ h => G .nrm (σ 1) (σ 2) (σ 4) (σ 6) (σ 42) h) = g15_1 k G (σ 1) (σ 2) (σ 4) (σ 6) (σ 37) h := (kgroups_cons (fun σ h => g15_2_eq k G σ h)).trans (g15_1_eq0 k G σ h)
@[simp] def g15_0 {R : Type} (k : Nat) (G : GX → GV → GV → GV → GV → GV → Heap → Option R) (v1 : GV) (v2 : GV) (v4 : GV) (v6 : GV) (v7 : GV) (h : Heap) : Option R := (kbin .lss v7 (.int .i64 0)).bind fun v36 => g15_1 k G v1 v2 v4 v6 v36 h
theorem g15_0_eq0 {R : Type} (k : Nat) (G : GX → GV → GV → GV → GV → GV → Heap → Option R) (σ : GS) (h : Heap) : kgroup1 PP cfg NN HH 69 o15 (none, [0, 1, 2]) σ h (fun σ h => g15_1 k G (σ 1) (σ 2) (σ 4) (σ 6) (σ 37) h) = g15_0 k G (σ 1) (σ 2) (σ 4) (σ 6) (σ 7) h := by kernel_rfl
theorem g15_0_eq {R : Type} (k : Nat) (G : GX → GV → GV → GV → GV → GV → Heap → Option R) (σ : GS) (h : Heap) : kgroups PP cfg NN HH 69 o15 [(none, [0, 1, 2]), (some (2, false), [3, 4, 5, 6]), (none, [7])] σ h (fun σ h => G .nrm (σ 1) (σ 2) (σ 4) (σ 6) (σ 42) h) = g15_0 k G (σ 1) (σ 2) (σ 4) (σ 6) (σ 7) h := (kgroups_cons (fun σ h => g15_1_eq k G σ h)).trans (g15_0_eq0 k G σ h)
@[simp] def n15 {R : Type} (k : Nat) (G : GX → GV → GV → GV → GV → GV → Heap → Option R) (v1 : GV) (v2 : GV) (v4 : GV) (v6 : GV) (v7 : GV) (h : Heap) : Option R := g15_0 k G v1 v2 v4 v6 v7 h
theorem n15_eq {R : Type} (k : Nat) (G : GX → GV → GV → GV → GV → GV → Heap → Option R) (σ : GS) (h : Heap) : KC k 69 c15 σ h (fun x σ h => G x (σ 1) (σ 2) (σ 4) (σ 6) (σ 42) h) = n15 k G (σ 1) (σ 2) (σ 4) (σ 6) (σ 7) h := (kregion_eq (id := 14) (draw := false) (ops := o15) (gs := [(none, [0, 1, 2]), (some (2, false), [3, 4, 5, 6]), (none, [7])]) (by kernel_rfl) (by kernel_rfl) (by kernel_rfl)).trans (g15_0_eq k G σ h)
@[simp] def n13 {R : Type} (k : Nat) (G : GX → GV → GV → GV → GV → Heap → Option R) (v1 : GV) (v2 : GV) (v4 : GV) (v6 : GV) (v7 : GV) (h : Heap) : Option R := n15 k (fun x v1 v2 v4 v6 v42 h => kx x (n14 k G v1 v2 v4 v6 v42 h) (G x v1 v2 v4 v6 h)) v1 v2 v4 v6 v7 h
theorem n13_eq {R : Type} (k : Nat) (G : GX → GV → GV → GV → GV → Heap → Option R) (σ : GS) (h : Heap) : KC k 69 c13 σ h (fun x σ h => G x (σ 1) (σ 2) (σ 4) (σ 6) h) = n13 k G (σ 1) (σ 2) (σ 4) (σ 6) (σ 7) h := (kseq (b := c14) rfl (fun σ h => n14_eq k G σ h)).trans (n15_eq k (fun x v1 v2 v4 v6 v42 h => kx x (n14 k G v1 v2 v4 v6 v42 h) (G x v1 v2 v4 v6 h)) σ h)
@[simp] def n11 {R : Type} (k : Nat) (G : GX → GV → Heap → Option R) (v1 : GV) (v2 : GV) (v4 : GV) (v6 : GV) (v7 : GV) (h : Heap) : Option R := n13 k (fun x v1 v2 v4 v6 h => kx x (n12 k G v1 v2 v4 v6 h) (G x v2 h)) v1 v2 v4 v6 v7 h
theorem n11_eq {R : Type} (k : Nat) (G : GX → GV → Heap → Option R) (σ : GS) (h : Heap) : KC k 69 c11 σ h (fun x σ h => G x (σ 2) h) = n11 k G (σ 1) (σ 2) (σ 4) (σ 6) (σ 7) h := (kseq (b := c12) rfl (fun σ h => n12_eq k G σ h)).trans (n13_eq k (fun x v1 v2 v4 v6 h => kx x (n12 k G v1 v2 v4 v6 h) (G x v2 h)) σ h)
noncomputable def c16 : Code := cL c10
@[simp] def n10 {R : Type} (k : Nat) (G : GX → GV → Heap → Option R) (v1 : GV) (v2 : GV) (v4 : GV) (v5 : GV) (v6 : GV) (v7 : GV) (h : Heap) : Option R := (kloadA 3 h v5).bind fun v32 => (HH fn.laws_markChain [v32, v7] h).bind fun r => kr r fun v34 h => n11 k G v1 v2 v4 v6 v34 h
theorem n10_eq0 {R : Type} (k : Nat) (G : GX → GV → Heap → Option R) (σ : GS) (h : Heap) : KC k 69 c16 σ h (fun x σ h => kx x (n11 k G (σ 1) (σ 2) (σ 4) (σ 6) (σ 7) h) (G x (σ 2) h)) = n10 k G (σ 1) (σ 2) (σ 4) (σ 5) (σ 6) (σ 7) h := by kernel_rfl
theorem n10_eq {R : Type} (k : Nat) (G : GX → GV → Heap → Option R) (σ : GS) (h : Heap) : KC k 69 c10 σ h (fun x σ h => G x (σ 2) h) = n10 k G (σ 1) (σ 2) (σ 4) (σ 5) (σ 6) (σ 7) h := (kseq (b := c11) rfl (fun σ h => n11_eq k G σ h)).trans (n10_eq0 k G σ h)
noncomputable def c17 : Code := cL c9
@[simp] def n9 {R : Type} (k : Nat) (G : GX → GV → Heap → Option R) (v1 : GV) (v2 : GV) (v4 : GV) (v5 : GV) (v6 : GV) (h : Heap) : Option R := n10 k G v1 v2 v4 v5 v6 (.int .i64 1) h
theorem n9_eq0 {R : Type} (k : Nat) (G : GX → GV → Heap → Option R) (σ : GS) (h : Heap) : KC k 69 c17 σ h (fun x σ h => kx x (n10 k G (σ 1) (σ 2) (σ 4) (σ 5) (σ 6) (σ 7) h) (G x (σ 2) h)) = n9 k G (σ 1) (σ 2) (σ 4) (σ 5) (σ 6) h := by kernel_rfl
theorem n9_eq {R : Type} (k : Nat) (G : GX → GV → Heap → Option R) (σ : GS) (h : Heap) : KC k 69 c9 σ h (fun x σ h => G x (σ 2) h) = n9 k G (σ 1) (σ 2) (σ 4) (σ 5) (σ 6) h := (kseq (b := c10) rfl (fun σ h => n10_eq k G σ h)).trans (n9_eq0 k G σ h)
noncomputable def c18 : Code := cL c8
@[simp] def n8 {R : Type} (k : Nat) (G : GX → GV → Heap → Option R) (v1 : GV) (v2 : GV) (v4 : GV) (v5 : GV) (v6 : GV) (h : Heap) : Option R := (kloadA 3 h v5).bind fun v27 => (kloadA 3 h v1).bind fun v28 => (kF false HH fn.laws_toChain [v28] h).bind fun r => kr r fun v29 h => (kN NN fn.laws_eqChain [v27, v29] h).bind fun v30 => (kun .not v30).bind fun v31 => kcond v31 (G .ret (.bool false) h) (n9 k G v1 v2 v4 v5 v6 h)
theorem n8_eq0 {R : Type} (k : Nat) (G : GX → GV → Heap → Option R) (σ : GS) (h : Heap) : KC k 69 c18 σ h (fun x σ h => kx x (n9 k G (σ 1) (σ 2) (σ 4) (σ 5) (σ 6) h) (G x (σ 2) h)) = n8 k G (σ 1) (σ 2) (σ 4) (σ 5) (σ 6) h := by kernel_rfl
theorem n8_eq {R : Type} (k : Nat) (G : GX → GV → Heap → Option R) (σ : GS) (h : Heap) : KC k 69 c8 σ h (fun x σ h => G x (σ 2) h) = n8 k G (σ 1) (σ 2) (σ 4) (σ 5) (σ 6) h := (kseq (b := c9) rfl (fun σ h => n9_eq k G σ h)).trans (n8_eq0 k G σ h)
noncomputable def c19 : Code := cL c7
@[simp] def n7 {R : Type} (k : Nat) (G : GX → GV → Heap → Option R) (v1 : GV) (v2 : GV) (v4 : GV) (v5 : GV) (v6 : GV) (h : Heap) : Option R := (kN NN fn.laws_eqStringS [v6, v4] h).bind fun v25 => (kun .not v25).bind fun v26 => kcond v26 (G .ret (.bool false) h) (n8 k G v1 v2 v4 v5 v6 h)
theorem n7_eq0 {R : Type} (k : Nat) (G : GX → GV → Heap → Option R) (σ : GS) (h : Heap) : KC k 69 c19 σ h (fun x σ h => kx x (n8 k G (σ 1) (σ 2) (σ 4) (σ 5) (σ 6) h) (G x (σ 2) h)) = n7 k G (σ 1) (σ 2) (σ 4) (σ 5) (σ 6) h := by kernel_rfl
theorem n7_eq {R : Type} (k : Nat) (G : GX → GV → Heap → Option R) (σ : GS) (h : Heap) : KC k 69 c7 σ h (fun x σ h => G x (σ 2) h) = n7 k G (σ 1) (σ 2) (σ 4) (σ 5) (σ 6) h := (kseq (b := c8) rfl (fun σ h => n8_eq k G σ h)).trans (n7_eq0 k G σ h)
noncomputable def c20 : Code := cL c6
@[simp] def n6 {R : Type} (k : Nat) (G : GX → GV → Heap → Option R) (v1 : GV) (v2 : GV) (v4 : GV) (v5 : GV) (h : Heap) : Option R := (kloadA 3 h v5).bind fun v21 => (kF false HH fn.impl_Certain [v21] h).bind fun r => kr r fun v22 h => n7 k G v1 v2 v4 v5 v22 h
theorem n6_eq0 {R : Type} (k : Nat) (G : GX → GV → Heap → Option R) (σ : GS) (h : Heap) : KC k 69 c20 σ h (fun x σ h => kx x (n7 k G (σ 1) (σ 2) (σ 4) (σ 5) (σ 6) h) (G x (σ 2) h)) = n6 k G (σ 1) (σ 2) (σ 4) (σ 5) h := by kernel_rfl
theorem n6_eq {R : Type} (k : Nat) (G : GX → GV → Heap → Option R) (σ : GS) (h : Heap) : KC k 69 c6 σ h (fun x σ h => G x (σ 2) h) = n6 k G (σ 1) (σ 2) (σ 4) (σ 5) h := (kseq (b := c7) rfl (fun σ h => n7_eq k G σ h)).trans (n6_eq0 k G σ h)
noncomputable def c21 : Code := cL c5
@[simp] def n5 {R : Type} (k : Nat) (G : GX → GV → Heap → Option R) (v1 : GV) (v2 : GV) (v4 : GV) (h : Heap) : Option R := (kloadA 3 h v1).bind fun v19 => (kF false HH fn.laws_toChain [v19] h).bind fun r => kr r fun v20 h => kalloc [.nils, .nils, .nils] h fun v5 h => (kstore 3 h v5 v20).bind fun h => n6 k G v1 v2 v4 v5 h
theorem n5_eq0 {R : Type} (k : Nat) (G : GX → GV → Heap → Option R) (σ : GS) (h : Heap) : KC k 69 c21 σ h (fun x σ h => kx x (n6 k G (σ 1) (σ 2) (σ 4) (σ 5) h) (G x (σ 2) h)) = n5 k G (σ 1) (σ 2) (σ 4) h := by kernel_rfl
theorem n5_eq {R : Type} (k : Nat) (G : GX → GV → Heap → Option R) (σ : GS) (h : Heap) : KC k 69 c5 σ h (fun x σ h => G x (σ 2) h) = n5 k G (σ 1) (σ 2) (σ 4) h := (kseq (b := c6) rfl (fun σ h => n6_eq k G σ h)).trans (n5_eq0 k G σ h)
noncomputable def c22 : Code := cL c4
@[simp] def n4 {R : Type} (k : Nat) (G : GX → GV → Heap → Option R) (v1 : GV) (v2 : GV) (h : Heap) : Option R := (kloadA 3 h v1).bind fun v16 => (kF false HH fn.laws_toChain [v16] h).bind fun r => kr r fun v17 h => (kN NN fn.spec_Certain [v17] h).bind fun v18 => n5 k G v1 v2 v18 h
theorem n4_eq0 {R : Type} (k : Nat) (G : GX → GV → Heap → Option R) (σ : GS) (h : Heap) : KC k 69 c22 σ h (fun x σ h => kx x (n5 k G (σ 1) (σ 2) (σ 4) h) (G x (σ 2) h)) = n4 k G (σ 1) (σ 2) h := by kernel_rfl
theorem n4_eq {R : Type} (k : Nat) (G : GX → GV → Heap → Option R) (σ : GS) (h : Heap) : KC k 69 c4 σ h (fun x σ h => G x (σ 2) h) = n4 k G (σ 1) (σ 2) h := (kseq (b := c5) rfl (fun σ h => n5_eq k G σ h)).trans (n4_eq0 k G σ h)
noncomputable def c23 : Code := cL c3
@[simp] def n3 {R : Type} (k : Nat) (G : GX → GV → Heap → Option R) (v1 : GV) (v2 : GV) (v3 : GV) (h : Heap) : Option R := (kbin .lss v3 (.int .i64 0)).bind fun v15 => kcond v15 (G .ret (.bool true) h) (n4 k G v1 v2 h)
theorem n3_eq0 {R : Type} (k : Nat) (G : GX → GV → Heap → Option R) (σ : GS) (h : Heap) : KC k 69 c23 σ h (fun x σ h => kx x (n4 k G (σ 1) (σ 2) h) (G x (σ 2) h)) = n3 k G (σ 1) (σ 2) (σ 3) h := by kernel_rfl
theorem n3_eq {R : Type} (k : Nat) (G : GX → GV → Heap → Option R) (σ : GS) (h : Heap) : KC k 69 c3 σ h (fun x σ h => G x (σ 2) h) = n3 k G (σ 1) (σ 2) (σ 3) h := (kseq (b := c4) rfl (fun σ h => n4_eq k G σ h)).trans (n3_eq0 k G σ h)
noncomputable def c24 : Code := cL c2
@[simp] def n2 {R : Type} (k : Nat) (G : GX → GV → Heap → Option R) (v1 : GV) (v2 : GV) (v3 : GV) (h : Heap) : Option R := (kloadA 3 h v1).bind fun v11 => (kN NN fn.laws_szChain [v11, v3] h).bind fun v13 => n3 k G v1 v2 v13 h
theorem n2_eq0 {R : Type} (k : Nat) (G : GX → GV → Heap → Option R) (σ : GS) (h : Heap) : KC k 69 c24 σ h (fun x σ h => kx x (n3 k G (σ 1) (σ 2) (σ 3) h) (G x (σ 2) h)) = n2 k G (σ 1) (σ 2) (σ 3) h := by kernel_rfl
theorem n2_eq {R : Type} (k : Nat) (G : GX → GV → Heap → Option R) (σ : GS) (h : Heap) : KC k 69 c2 σ h (fun x σ h => G x (σ 2) h) = n2 k G (σ 1) (σ 2) (σ 3) h := (kseq (b := c3) rfl (fun σ h => n3_eq k G σ h)).trans (n2_eq0 k G σ h)
noncomputable def c25 : Code := cL c1
@[simp] def n1 {R : Type} (k : Nat) (G : GX → GV → Heap → Option R) (v1 : GV) (v2 : GV) (h : Heap) : Option R := n2 k G v1 v2 (.int .i64 1048576) h
theorem n1_eq0 {R : Type} (k : Nat) (G : GX → GV → Heap → Option R) (σ : GS) (h : Heap) : KC k 69 c25 σ h (fun x σ h => kx x (n2 k G (σ 1) (σ 2) (σ 3) h) (G x (σ 2) h)) = n1 k G (σ 1) (σ 2) h := by kernel_rfl
theorem n1_eq {R : Type} (k : Nat) (G : GX → GV → Heap → Option R) (σ : GS) (h : Heap) : KC k 69 c1 σ h (fun x σ h => G x (σ 2) h) = n1 k G (σ 1) (σ 2) h := (kseq (b := c2) rfl (fun σ h => n2_eq k G σ h)).trans (n1_eq0 k G σ h)
noncomputable def c26 : Code := cL c0
@[simp] def n0 {R : Type} (k : Nat) (G : GX → GV → Heap → Option R) (v0 : GV) (h : Heap) : Option R := kbox v0 h fun v1 h => n1 k G v1 (.bool false) h
theorem n0_eq0 {R : Type} (k : Nat) (G : GX → GV → Heap → Option R) (σ : GS) (h : Heap) : KC k 69 c26 σ h (fun x σ h => kx x (n1 k G (σ 1) (σ 2) h) (G x (σ 2) h)) = n0 k G (σ 0) h := by kernel_rfl
theorem n0_eq {R : Type} (k : Nat) (G : GX → GV → Heap → Option R) (σ : GS) (h : Heap) : KC k 69 c0 σ h (fun x σ h => G x (σ 2) h) = n0 k G (σ 0) h := (kseq (b := c1) rfl (fun σ h => n1_eq k G σ h)).trans (n0_eq0 k G σ h)
def run {R : Type} (k : Nat) (a0 : GV) (h : Heap) (fin : GV → Heap → Option R) : Option R := n0 k (fun x v2 h => kend x (fin v2 h)) a0 h
theorem run_eq {R : Type} (k : Nat) (a0 : GV) (h : Heap) (fin : GV → Heap → Option R) : kfun PP cfg NN HH k fn.laws_FnExactCertain [a0] h fin = run k a0 h fin := (kfun_eq (nt := 69) (c := c0) (show PP.funcs[fn.laws_FnExactCertain]? = some Try.f3 by kernel_rfl) (by kernel_rfl) (by kernel_rfl) (fun x σ h => by cases x <;> kernel_rfl)).trans (n0_eq k (fun x v2 h => kend x (fin v2 h)) _ h)
theorem gives {k : Nat} {a0 : GV} {v : GV} (e : run k a0 [] finN = some v) : NN fn.laws_FnExactCertain [a0] = some v := nω_of (by kernel_rfl) ((run_eq k a0 [] finN).trans e)
end S.laws_FnExactCertain
end
end Go.Proofs.Ytopmnigfklgnkaa.G
