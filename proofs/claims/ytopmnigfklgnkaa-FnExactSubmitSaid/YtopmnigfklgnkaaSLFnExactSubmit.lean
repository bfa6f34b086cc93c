/- What these functions do, told for open values, out of the machine with continuations. Printed by a program of this session. -/
import Derived.Test.YtopmnigfklgnkaaSA
import Derived.KernelRfl
namespace Go.Proofs.Ytopmnigfklgnkaa.G
open Go.RowKit
set_option linter.unusedVariables false
set_option maxRecDepth 100000
noncomputable section
/-! laws_FnExactSubmit -/
namespace S.laws_FnExactSubmit
noncomputable def c0 : Code := bodyOf Try.f5
noncomputable def c1 : Code := cR c0
noncomputable def c2 : Code := cR c1
noncomputable def c3 : Code := cR c2
noncomputable def c4 : Code := cR c3
noncomputable def c5 : Code := cR c4
noncomputable def c6 : Code := cR c5
noncomputable def c7 : Code := cR c6
noncomputable def c8 : Code := cR c7
noncomputable def c9 : Code := cR c8
noncomputable def c10 : Code := cR c9
noncomputable def c11 : Code := cR c10
noncomputable def c12 : Code := cR c11
noncomputable def c13 : Code := cR c12
noncomputable def c14 : Code := cR c13
noncomputable def c15 : Code := cR c14
noncomputable def c16 : Code := cR c15
noncomputable def c17 : Code := cR c16
noncomputable def c18 : Code := cR c17
noncomputable def c19 : Code := cR c18
noncomputable def c20 : Code := cR c19
noncomputable def c21 : Code := cR c20
@[simp] def n21 {R : Type} (k : Nat) (G : KT1 R) (v4 v9 v12 : GV) (h : Heap) : Option R := (kloadA 3 h v9).bind fun v96 => (kN NN fn.laws_heldChain [v96, (.int .i64 1)] h).bind fun v98 => (kbin .lss v98 (.int .i64 0)).bind fun v100 => kcond v100 (G .ret (.bool false) h) ((kbin .neq v98 v12).bind fun v103 => kcond v103 (G .ret (.bool false) h) (G .ret (.bool true) h))
theorem n21_eq {R : Type} (k : Nat) (G : KT1 R) (σ : GS) (h : Heap) : KC k 104 c21 σ h (fun x σ h => G x (σ 4) h) = n21 k G (σ 4) (σ 9) (σ 12) h := by kernel_rfl
noncomputable def c22 : Code := cL c20
noncomputable def c23 : Code := cR c22
@[simp] def n23 {R : Type} (k : Nat) (G : KT3 R) (v4 v9 v12 v95 : GV) (h : Heap) : Option R := kcond v95 (G .ret (.bool false) v9 v12 h) (G .nrm v4 v9 v12 h)
theorem n23_eq {R : Type} (k : Nat) (G : KT3 R) (σ : GS) (h : Heap) : KC k 104 c23 σ h (fun x σ h => G x (σ 4) (σ 9) (σ 12) h) = n23 k G (σ 4) (σ 9) (σ 12) (σ 95) h := by kernel_rfl
noncomputable def c24 : Code := cL c22
noncomputable def o24 : Array Oper := cO c24
@[simp] def g24_2 {R : Type} (k : Nat) (G : KT4 R) (v4 v9 v12 v91 v94 : GV) (h : Heap) : Option R := (kpick v91 (.bool true) v94).bind fun v95 => G .nrm v4 v9 v12 v95 h
theorem g24_2_eq {R : Type} (k : Nat) (G : KT4 R) (σ : GS) (h : Heap) : kgroups PP cfg NN HH 104 o24 [(none, [8])] σ h (fun σ h => G .nrm (σ 4) (σ 9) (σ 12) (σ 95) h) = g24_2 k G (σ 4) (σ 9) (σ 12) (σ 91) (σ 94) h := by kernel_rfl
@[simp] def g24_1 {R : Type} (k : Nat) (G : KT4 R) (v4 v7 v9 v12 v15 v91 : GV) (h : Heap) : Option R := bif tr false v91 then (keqB .neq v15 v7).bind fun v94 => g24_2 k G v4 v9 v12 v91 v94 h else g24_2 k G v4 v9 v12 v91 .un h
theorem g24_1_eq0 {R : Type} (k : Nat) (G : KT4 R) (σ : GS) (h : Heap) : kgroup1 PP cfg NN HH 104 o24 (some (4, false), [5, 6, 7]) σ h (fun σ h => g24_2 k G (σ 4) (σ 9) (σ 12) (σ 91) (σ 94) h) = g24_1 k G (σ 4) (σ 7) (σ 9) (σ 12) (σ 15) (σ 91) h := by kernel_rfl
theorem g24_1_eq {R : Type} (k : Nat) (G : KT4 R) (σ : GS) (h : Heap) : kgroups PP cfg NN HH 104 o24 [(some (4, false), [5, 6, 7]), (none, [8])] σ h (fun σ h => G .nrm (σ 4) (σ 9) (σ 12) (σ 95) h) = g24_1 k G (σ 4) (σ 7) (σ 9) (σ 12) (σ 15) (σ 91) h := (kgroups_cons (fun σ h => g24_2_eq k G σ h)).trans (g24_1_eq0 k G σ h)
@[simp] def g24_0 {R : Type} (k : Nat) (G : KT4 R) (v4 v6 v7 v9 v12 v14 v15 : GV) (h : Heap) : Option R := (kloadA 3 h v14).bind fun v87 => (kloadA 3 h v6).bind fun v88 => (kN NN fn.laws_eqChain [v87, v88] h).bind fun v89 => (kun .not v89).bind fun v90 => g24_1 k G v4 v7 v9 v12 v15 v90 h
theorem g24_0_eq0 {R : Type} (k : Nat) (G : KT4 R) (σ : GS) (h : Heap) : kgroup1 PP cfg NN HH 104 o24 (none, [0, 1, 2, 3, 4]) σ h (fun σ h => g24_1 k G (σ 4) (σ 7) (σ 9) (σ 12) (σ 15) (σ 91) h) = g24_0 k G (σ 4) (σ 6) (σ 7) (σ 9) (σ 12) (σ 14) (σ 15) h := by kernel_rfl
theorem g24_0_eq {R : Type} (k : Nat) (G : KT4 R) (σ : GS) (h : Heap) : kgroups PP cfg NN HH 104 o24 [(none, [0, 1, 2, 3, 4]), (some (4, false), [5, 6, 7]), (none, [8])] σ h (fun σ h => G .nrm (σ 4) (σ 9) (σ 12) (σ 95) h) = g24_0 k G (σ 4) (σ 6) (σ 7) (σ 9) (σ 12) (σ 14) (σ 15) h := (kgroups_cons (fun σ h => g24_1_eq k G σ h)).trans (g24_0_eq0 k G σ h)
@[simp] def n24 {R : Type} (k : Nat) (G : KT4 R) (v4 v6 v7 v9 v12 v14 v15 : GV) (h : Heap) : Option R := g24_0 k G v4 v6 v7 v9 v12 v14 v15 h
theorem n24_eq {R : Type} (k : Nat) (G : KT4 R) (σ : GS) (h : Heap) : KC k 104 c24 σ h (fun x σ h => G x (σ 4) (σ 9) (σ 12) (σ 95) h) = n24 k G (σ 4) (σ 6) (σ 7) (σ 9) (σ 12) (σ 14) (σ 15) h := (kregion_eq (id := 27) (draw := false) (ops := o24) (gs := [(none, [0, 1, 2, 3, 4]), (some (4, false), [5, 6, 7]), (none, [8])]) (by kernel_rfl) (by kernel_rfl) (by kernel_rfl)).trans (g24_0_eq k G σ h)
@[simp] def n22 {R : Type} (k : Nat) (G : KT3 R) (v4 v6 v7 v9 v12 v14 v15 : GV) (h : Heap) : Option R := n24 k (fun x v4 v9 v12 v95 h => kx x (n23 k G v4 v9 v12 v95 h) (G x v4 v9 v12 h)) v4 v6 v7 v9 v12 v14 v15 h
theorem n22_eq {R : Type} (k : Nat) (G : KT3 R) (σ : GS) (h : Heap) : KC k 104 c22 σ h (fun x σ h => G x (σ 4) (σ 9) (σ 12) h) = n22 k G (σ 4) (σ 6) (σ 7) (σ 9) (σ 12) (σ 14) (σ 15) h := (kseq (b := c23) rfl (fun σ h => n23_eq k G σ h)).trans (n24_eq k (fun x v4 v9 v12 v95 h => kx x (n23 k G v4 v9 v12 v95 h) (G x v4 v9 v12 h)) σ h)
@[simp] def n20 {R : Type} (k : Nat) (G : KT1 R) (v4 v6 v7 v9 v12 v14 v15 : GV) (h : Heap) : Option R := n22 k (fun x v4 v9 v12 h => kx x (n21 k G v4 v9 v12 h) (G x v4 h)) v4 v6 v7 v9 v12 v14 v15 h
theorem n20_eq {R : Type} (k : Nat) (G : KT1 R) (σ : GS) (h : Heap) : KC k 104 c20 σ h (fun x σ h => G x (σ 4) h) = n20 k G (σ 4) (σ 6) (σ 7) (σ 9) (σ 12) (σ 14) (σ 15) h := (kseq (b := c21) rfl (fun σ h => n21_eq k G σ h)).trans (n22_eq k (fun x v4 v9 v12 h => kx x (n21 k G v4 v9 v12 h) (G x v4 h)) σ h)
noncomputable def c25 : Code := cL c19
@[simp] def n19 {R : Type} (k : Nat) (G : KT1 R) (v1 v2 v4 v6 v7 v9 v12 : GV) (h : Heap) : Option R := (kloadA 3 h v2).bind fun v81 => (kF false HH fn.laws_toChain [v81] h).bind fun r => kr r fun v82 h => (kF false HH fn.impl_Submit [v82, v1] h).bind fun r => kr r fun v84 h => (kxt 0 v84).bind fun v85 => (kxt 1 v84).bind fun v86 => kalloc [.nils, .nils, .nils] h fun v14 h => (kstore 3 h v14 v85).bind fun h => n20 k G v4 v6 v7 v9 v12 v14 v86 h
theorem n19_eq0 {R : Type} (k : Nat) (G : KT1 R) (σ : GS) (h : Heap) : KC k 104 c25 σ h (fun x σ h => kx x (n20 k G (σ 4) (σ 6) (σ 7) (σ 9) (σ 12) (σ 14) (σ 15) h) (G x (σ 4) h)) = n19 k G (σ 1) (σ 2) (σ 4) (σ 6) (σ 7) (σ 9) (σ 12) h := by kernel_rfl
theorem n19_eq {R : Type} (k : Nat) (G : KT1 R) (σ : GS) (h : Heap) : KC k 104 c19 σ h (fun x σ h => G x (σ 4) h) = n19 k G (σ 1) (σ 2) (σ 4) (σ 6) (σ 7) (σ 9) (σ 12) h := (kseq (b := c20) rfl (fun σ h => n20_eq k G σ h)).trans (n19_eq0 k G σ h)
noncomputable def c26 : Code := cL c18
@[simp] def n18 {R : Type} (k : Nat) (G : KT1 R) (v1 v2 v4 v6 v7 v9 v12 v13 : GV) (h : Heap) : Option R := (kbin .neq v13 v12).bind fun v79 => kcond v79 (G .ret (.bool false) h) (n19 k G v1 v2 v4 v6 v7 v9 v12 h)
theorem n18_eq0 {R : Type} (k : Nat) (G : KT1 R) (σ : GS) (h : Heap) : KC k 104 c26 σ h (fun x σ h => kx x (n19 k G (σ 1) (σ 2) (σ 4) (σ 6) (σ 7) (σ 9) (σ 12) h) (G x (σ 4) h)) = n18 k G (σ 1) (σ 2) (σ 4) (σ 6) (σ 7) (σ 9) (σ 12) (σ 13) h := by kernel_rfl
theorem n18_eq {R : Type} (k : Nat) (G : KT1 R) (σ : GS) (h : Heap) : KC k 104 c18 σ h (fun x σ h => G x (σ 4) h) = n18 k G (σ 1) (σ 2) (σ 4) (σ 6) (σ 7) (σ 9) (σ 12) (σ 13) h := (kseq (b := c19) rfl (fun σ h => n19_eq k G σ h)).trans (n18_eq0 k G σ h)
noncomputable def c27 : Code := cL c17
@[simp] def n17 {R : Type} (k : Nat) (G : KT1 R) (v1 v2 v4 v6 v7 v9 v12 v13 : GV) (h : Heap) : Option R := (kbin .lss v13 (.int .i64 0)).bind fun v76 => kcond v76 (G .ret (.bool false) h) (n18 k G v1 v2 v4 v6 v7 v9 v12 v13 h)
theorem n17_eq0 {R : Type} (k : Nat) (G : KT1 R) (σ : GS) (h : Heap) : KC k 104 c27 σ h (fun x σ h => kx x (n18 k G (σ 1) (σ 2) (σ 4) (σ 6) (σ 7) (σ 9) (σ 12) (σ 13) h) (G x (σ 4) h)) = n17 k G (σ 1) (σ 2) (σ 4) (σ 6) (σ 7) (σ 9) (σ 12) (σ 13) h := by kernel_rfl
theorem n17_eq {R : Type} (k : Nat) (G : KT1 R) (σ : GS) (h : Heap) : KC k 104 c17 σ h (fun x σ h => G x (σ 4) h) = n17 k G (σ 1) (σ 2) (σ 4) (σ 6) (σ 7) (σ 9) (σ 12) (σ 13) h := (kseq (b := c18) rfl (fun σ h => n18_eq k G σ h)).trans (n17_eq0 k G σ h)
noncomputable def c28 : Code := cL c16
@[simp] def n16 {R : Type} (k : Nat) (G : KT1 R) (v1 v2 v4 v6 v7 v9 v12 v13 : GV) (h : Heap) : Option R := (kloadA 3 h v9).bind fun v72 => (kN NN fn.laws_heldChain [v72, v13] h).bind fun v74 => n17 k G v1 v2 v4 v6 v7 v9 v12 v74 h
theorem n16_eq0 {R : Type} (k : Nat) (G : KT1 R) (σ : GS) (h : Heap) : KC k 104 c28 σ h (fun x σ h => kx x (n17 k G (σ 1) (σ 2) (σ 4) (σ 6) (σ 7) (σ 9) (σ 12) (σ 13) h) (G x (σ 4) h)) = n16 k G (σ 1) (σ 2) (σ 4) (σ 6) (σ 7) (σ 9) (σ 12) (σ 13) h := by kernel_rfl
theorem n16_eq {R : Type} (k : Nat) (G : KT1 R) (σ : GS) (h : Heap) : KC k 104 c16 σ h (fun x σ h => G x (σ 4) h) = n16 k G (σ 1) (σ 2) (σ 4) (σ 6) (σ 7) (σ 9) (σ 12) (σ 13) h := (kseq (b := c17) rfl (fun σ h => n17_eq k G σ h)).trans (n16_eq0 k G σ h)
noncomputable def c29 : Code := cL c15
@[simp] def n15 {R : Type} (k : Nat) (G : KT1 R) (v1 v2 v4 v6 v7 v9 v12 : GV) (h : Heap) : Option R := n16 k G v1 v2 v4 v6 v7 v9 v12 (.int .i64 1) h
theorem n15_eq0 {R : Type} (k : Nat) (G : KT1 R) (σ : GS) (h : Heap) : KC k 104 c29 σ h (fun x σ h => kx x (n16 k G (σ 1) (σ 2) (σ 4) (σ 6) (σ 7) (σ 9) (σ 12) (σ 13) h) (G x (σ 4) h)) = n15 k G (σ 1) (σ 2) (σ 4) (σ 6) (σ 7) (σ 9) (σ 12) h := by kernel_rfl
theorem n15_eq {R : Type} (k : Nat) (G : KT1 R) (σ : GS) (h : Heap) : KC k 104 c15 σ h (fun x σ h => G x (σ 4) h) = n15 k G (σ 1) (σ 2) (σ 4) (σ 6) (σ 7) (σ 9) (σ 12) h := (kseq (b := c16) rfl (fun σ h => n16_eq k G σ h)).trans (n15_eq0 k G σ h)
noncomputable def c30 : Code := cL c14
@[simp] def n14 {R : Type} (k : Nat) (G : KT1 R) (v1 v2 v4 v6 v7 v9 v12 : GV) (h : Heap) : Option R := (kloadA 3 h v9).bind fun v69 => (HH fn.laws_markChain [v69, v12] h).bind fun r => kr r fun v71 h => n15 k G v1 v2 v4 v6 v7 v9 v71 h
theorem n14_eq0 {R : Type} (k : Nat) (G : KT1 R) (σ : GS) (h : Heap) : KC k 104 c30 σ h (fun x σ h => kx x (n15 k G (σ 1) (σ 2) (σ 4) (σ 6) (σ 7) (σ 9) (σ 12) h) (G x (σ 4) h)) = n14 k G (σ 1) (σ 2) (σ 4) (σ 6) (σ 7) (σ 9) (σ 12) h := by kernel_rfl
theorem n14_eq {R : Type} (k : Nat) (G : KT1 R) (σ : GS) (h : Heap) : KC k 104 c14 σ h (fun x σ h => G x (σ 4) h) = n14 k G (σ 1) (σ 2) (σ 4) (σ 6) (σ 7) (σ 9) (σ 12) h := (kseq (b := c15) rfl (fun σ h => n15_eq k G σ h)).trans (n14_eq0 k G σ h)
noncomputable def c31 : Code := cL c13
@[simp] def n13 {R : Type} (k : Nat) (G : KT1 R) (v1 v2 v4 v6 v7 v9 : GV) (h : Heap) : Option R := n14 k G v1 v2 v4 v6 v7 v9 (.int .i64 1) h
theorem n13_eq0 {R : Type} (k : Nat) (G : KT1 R) (σ : GS) (h : Heap) : KC k 104 c31 σ h (fun x σ h => kx x (n14 k G (σ 1) (σ 2) (σ 4) (σ 6) (σ 7) (σ 9) (σ 12) h) (G x (σ 4) h)) = n13 k G (σ 1) (σ 2) (σ 4) (σ 6) (σ 7) (σ 9) h := by kernel_rfl
theorem n13_eq {R : Type} (k : Nat) (G : KT1 R) (σ : GS) (h : Heap) : KC k 104 c13 σ h (fun x σ h => G x (σ 4) h) = n13 k G (σ 1) (σ 2) (σ 4) (σ 6) (σ 7) (σ 9) h := (kseq (b := c14) rfl (fun σ h => n14_eq k G σ h)).trans (n13_eq0 k G σ h)
noncomputable def c32 : Code := cL c12
noncomputable def c33 : Code := cR c32
@[simp] def n33 {R : Type} (k : Nat) (G : KT6 R) (v1 v2 v4 v6 v7 v9 v68 : GV) (h : Heap) : Option R := kcond v68 (G .ret v1 v2 (.bool false) v6 v7 v9 h) (G .nrm v1 v2 v4 v6 v7 v9 h)
theorem n33_eq {R : Type} (k : Nat) (G : KT6 R) (σ : GS) (h : Heap) : KC k 104 c33 σ h (fun x σ h => G x (σ 1) (σ 2) (σ 4) (σ 6) (σ 7) (σ 9) h) = n33 k G (σ 1) (σ 2) (σ 4) (σ 6) (σ 7) (σ 9) (σ 68) h := by kernel_rfl
noncomputable def c34 : Code := cL c32
noncomputable def o34 : Array Oper := cO c34
@[simp] def g34_4 {R : Type} (k : Nat) (G : KT7 R) (v1 v2 v4 v6 v7 v9 v64 v67 : GV) (h : Heap) : Option R := (kpick v64 (.bool true) v67).bind fun v68 => G .nrm v1 v2 v4 v6 v7 v9 v68 h
theorem g34_4_eq {R : Type} (k : Nat) (G : KT7 R) (σ : GS) (h : Heap) : kgroups PP cfg NN HH 104 o34 [(none, [12])] σ h (fun σ h => G .nrm (σ 1) (σ 2) (σ 4) (σ 6) (σ 7) (σ 9) (σ 68) h) = g34_4 k G (σ 1) (σ 2) (σ 4) (σ 6) (σ 7) (σ 9) (σ 64) (σ 67) h := by kernel_rfl
@[simp] def g34_3 {R : Type} (k : Nat) (G : KT7 R) (v1 v2 v4 v6 v7 v9 v10 v64 : GV) (h : Heap) : Option R := bif tr false v64 then (keqB .neq v10 v7).bind fun v67 => g34_4 k G v1 v2 v4 v6 v7 v9 v64 v67 h else g34_4 k G v1 v2 v4 v6 v7 v9 v64 .un h
theorem g34_3_eq0 {R : Type} (k : Nat) (G : KT7 R) (σ : GS) (h : Heap) : kgroup1 PP cfg NN HH 104 o34 (some (8, false), [9, 10, 11]) σ h (fun σ h => g34_4 k G (σ 1) (σ 2) (σ 4) (σ 6) (σ 7) (σ 9) (σ 64) (σ 67) h) = g34_3 k G (σ 1) (σ 2) (σ 4) (σ 6) (σ 7) (σ 9) (σ 10) (σ 64) h := by kernel_rfl
theorem g34_3_eq {R : Type} (k : Nat) (G : KT7 R) (σ : GS) (h : Heap) : kgroups PP cfg NN HH 104 o34 [(some (8, false), [9, 10, 11]), (none, [12])] σ h (fun σ h => G .nrm (σ 1) (σ 2) (σ 4) (σ 6) (σ 7) (σ 9) (σ 68) h) = g34_3 k G (σ 1) (σ 2) (σ 4) (σ 6) (σ 7) (σ 9) (σ 10) (σ 64) h := (kgroups_cons (fun σ h => g34_4_eq k G σ h)).trans (g34_3_eq0 k G σ h)
@[simp] def g34_2 {R : Type} (k : Nat) (G : KT7 R) (v1 v2 v4 v6 v7 v9 v10 v58 v62 : GV) (h : Heap) : Option R := (kpick v58 (.bool true) v62).bind fun v63 => g34_3 k G v1 v2 v4 v6 v7 v9 v10 v63 h
theorem g34_2_eq0 {R : Type} (k : Nat) (G : KT7 R) (σ : GS) (h : Heap) : kgroup1 PP cfg NN HH 104 o34 (none, [7, 8]) σ h (fun σ h => g34_3 k G (σ 1) (σ 2) (σ 4) (σ 6) (σ 7) (σ 9) (σ 10) (σ 64) h) = g34_2 k G (σ 1) (σ 2) (σ 4) (σ 6) (σ 7) (σ 9) (σ 10) (σ 58) (σ 62) h := by kernel_rfl
theorem g34_2_eq {R : Type} (k : Nat) (G : KT7 R) (σ : GS) (h : Heap) : kgroups PP cfg NN HH 104 o34 [(none, [7, 8]), (some (8, false), [9, 10, 11]), (none, [12])] σ h (fun σ h => G .nrm (σ 1) (σ 2) (σ 4) (σ 6) (σ 7) (σ 9) (σ 68) h) = g34_2 k G (σ 1) (σ 2) (σ 4) (σ 6) (σ 7) (σ 9) (σ 10) (σ 58) (σ 62) h := (kgroups_cons (fun σ h => g34_3_eq k G σ h)).trans (g34_2_eq0 k G σ h)
@[simp] def g34_1 {R : Type} (k : Nat) (G : KT7 R) (v1 v2 v4 v6 v7 v9 v10 v58 : GV) (h : Heap) : Option R := bif tr false v58 then (kloadA 3 h v9).bind fun v59 => (kloadA 3 h v6).bind fun v60 => (kN NN fn.laws_eqChain [v59, v60] h).bind fun v61 => (kun .not v61).bind fun v62 => g34_2 k G v1 v2 v4 v6 v7 v9 v10 v58 v62 h else g34_2 k G v1 v2 v4 v6 v7 v9 v10 v58 .un h
theorem g34_1_eq0 {R : Type} (k : Nat) (G : KT7 R) (σ : GS) (h : Heap) : kgroup1 PP cfg NN HH 104 o34 (some (2, false), [3, 4, 5, 6]) σ h (fun σ h => g34_2 k G (σ 1) (σ 2) (σ 4) (σ 6) (σ 7) (σ 9) (σ 10) (σ 58) (σ 62) h) = g34_1 k G (σ 1) (σ 2) (σ 4) (σ 6) (σ 7) (σ 9) (σ 10) (σ 58) h := by kernel_rfl
theorem g34_1_eq {R : Type} (k : Nat) (G : KT7 R) (σ : GS) (h : Heap) : kgroups PP cfg NN HH 104 o34 [(some (2, false), [3, 4, 5, 6]), (none, [7, 8]), (some (8, false), [9, 10, 11]), (none, [12])] σ h (fun σ h => G .nrm (σ 1) (σ 2) (σ 4) (σ 6) (σ 7) (σ 9) (σ 68) h) = g34_1 k G (σ 1) (σ 2) (σ 4) (σ 6) (σ 7) (σ 9) (σ 10) (σ 58) h := (kgroups_cons (fun σ h => g34_2_eq k G σ h)).trans (g34_1_eq0 k G σ h)
@[simp] def g34_0 {R : Type} (k : Nat) (G : KT7 R) (v1 v2 v4 v6 v7 v9 v10 v11 : GV) (h : Heap) : Option R := (kbin .lss v11 (.int .i64 0)).bind fun v57 => g34_1 k G v1 v2 v4 v6 v7 v9 v10 v57 h
theorem g34_0_eq0 {R : Type} (k : Nat) (G : KT7 R) (σ : GS) (h : Heap) : kgroup1 PP cfg NN HH 104 o34 (none, [0, 1, 2]) σ h (fun σ h => g34_1 k G (σ 1) (σ 2) (σ 4) (σ 6) (σ 7) (σ 9) (σ 10) (σ 58) h) = g34_0 k G (σ 1) (σ 2) (σ 4) (σ 6) (σ 7) (σ 9) (σ 10) (σ 11) h := by kernel_rfl
theorem g34_0_eq {R : Type} (k : Nat) (G : KT7 R) (σ : GS) (h : Heap) : kgroups PP cfg NN HH 104 o34 [(none, [0, 1, 2]), (some (2, false), [3, 4, 5, 6]), (none, [7, 8]), (some (8, false), [9, 10, 11]), (none, [12])] σ h (fun σ h => G .nrm (σ 1) (σ 2) (σ 4) (σ 6) (σ 7) (σ 9) (σ 68) h) = g34_0 k G (σ 1) (σ 2) (σ 4) (σ 6) (σ 7) (σ 9) (σ 10) (σ 11) h := (kgroups_cons (fun σ h => g34_1_eq k G σ h)).trans (g34_0_eq0 k G σ h)
@[simp] def n34 {R : Type} (k : Nat) (G : KT7 R) (v1 v2 v4 v6 v7 v9 v10 v11 : GV) (h : Heap) : Option R := g34_0 k G v1 v2 v4 v6 v7 v9 v10 v11 h
theorem n34_eq {R : Type} (k : Nat) (G : KT7 R) (σ : GS) (h : Heap) : KC k 104 c34 σ h (fun x σ h => G x (σ 1) (σ 2) (σ 4) (σ 6) (σ 7) (σ 9) (σ 68) h) = n34 k G (σ 1) (σ 2) (σ 4) (σ 6) (σ 7) (σ 9) (σ 10) (σ 11) h := (kregion_eq (id := 16) (draw := false) (ops := o34) (gs := [(none, [0, 1, 2]), (some (2, false), [3, 4, 5, 6]), (none, [7, 8]), (some (8, false), [9, 10, 11]), (none, [12])]) (by kernel_rfl) (by kernel_rfl) (by kernel_rfl)).trans (g34_0_eq k G σ h)
@[simp] def n32 {R : Type} (k : Nat) (G : KT6 R) (v1 v2 v4 v6 v7 v9 v10 v11 : GV) (h : Heap) : Option R := n34 k (fun x v1 v2 v4 v6 v7 v9 v68 h => kx x (n33 k G v1 v2 v4 v6 v7 v9 v68 h) (G x v1 v2 v4 v6 v7 v9 h)) v1 v2 v4 v6 v7 v9 v10 v11 h
theorem n32_eq {R : Type} (k : Nat) (G : KT6 R) (σ : GS) (h : Heap) : KC k 104 c32 σ h (fun x σ h => G x (σ 1) (σ 2) (σ 4) (σ 6) (σ 7) (σ 9) h) = n32 k G (σ 1) (σ 2) (σ 4) (σ 6) (σ 7) (σ 9) (σ 10) (σ 11) h := (kseq (b := c33) rfl (fun σ h => n33_eq k G σ h)).trans (n34_eq k (fun x v1 v2 v4 v6 v7 v9 v68 h => kx x (n33 k G v1 v2 v4 v6 v7 v9 v68 h) (G x v1 v2 v4 v6 v7 v9 h)) σ h)
@[simp] def n12 {R : Type} (k : Nat) (G : KT1 R) (v1 v2 v4 v6 v7 v9 v10 v11 : GV) (h : Heap) : Option R := n32 k (fun x v1 v2 v4 v6 v7 v9 h => kx x (n13 k G v1 v2 v4 v6 v7 v9 h) (G x v4 h)) v1 v2 v4 v6 v7 v9 v10 v11 h
theorem n12_eq {R : Type} (k : Nat) (G : KT1 R) (σ : GS) (h : Heap) : KC k 104 c12 σ h (fun x σ h => G x (σ 4) h) = n12 k G (σ 1) (σ 2) (σ 4) (σ 6) (σ 7) (σ 9) (σ 10) (σ 11) h := (kseq (b := c13) rfl (fun σ h => n13_eq k G σ h)).trans (n32_eq k (fun x v1 v2 v4 v6 v7 v9 h => kx x (n13 k G v1 v2 v4 v6 v7 v9 h) (G x v4 h)) σ h)
noncomputable def c35 : Code := cL c11
@[simp] def n11 {R : Type} (k : Nat) (G : KT1 R) (v1 v2 v4 v6 v7 v8 v9 v10 v11 : GV) (h : Heap) : Option R := (kloadA 3 h v8).bind fun v53 => (HH fn.laws_markChain [v53, v11] h).bind fun r => kr r fun v55 h => n12 k G v1 v2 v4 v6 v7 v9 v10 v55 h
theorem n11_eq0 {R : Type} (k : Nat) (G : KT1 R) (σ : GS) (h : Heap) : KC k 104 c35 σ h (fun x σ h => kx x (n12 k G (σ 1) (σ 2) (σ 4) (σ 6) (σ 7) (σ 9) (σ 10) (σ 11) h) (G x (σ 4) h)) = n11 k G (σ 1) (σ 2) (σ 4) (σ 6) (σ 7) (σ 8) (σ 9) (σ 10) (σ 11) h := by kernel_rfl
theorem n11_eq {R : Type} (k : Nat) (G : KT1 R) (σ : GS) (h : Heap) : KC k 104 c11 σ h (fun x σ h => G x (σ 4) h) = n11 k G (σ 1) (σ 2) (σ 4) (σ 6) (σ 7) (σ 8) (σ 9) (σ 10) (σ 11) h := (kseq (b := c12) rfl (fun σ h => n12_eq k G σ h)).trans (n11_eq0 k G σ h)
noncomputable def c36 : Code := cL c10
@[simp] def n10 {R : Type} (k : Nat) (G : KT1 R) (v1 v2 v4 v6 v7 v8 v9 v10 : GV) (h : Heap) : Option R := n11 k G v1 v2 v4 v6 v7 v8 v9 v10 (.int .i64 1) h
theorem n10_eq0 {R : Type} (k : Nat) (G : KT1 R) (σ : GS) (h : Heap) : KC k 104 c36 σ h (fun x σ h => kx x (n11 k G (σ 1) (σ 2) (σ 4) (σ 6) (σ 7) (σ 8) (σ 9) (σ 10) (σ 11) h) (G x (σ 4) h)) = n10 k G (σ 1) (σ 2) (σ 4) (σ 6) (σ 7) (σ 8) (σ 9) (σ 10) h := by kernel_rfl
theorem n10_eq {R : Type} (k : Nat) (G : KT1 R) (σ : GS) (h : Heap) : KC k 104 c10 σ h (fun x σ h => G x (σ 4) h) = n10 k G (σ 1) (σ 2) (σ 4) (σ 6) (σ 7) (σ 8) (σ 9) (σ 10) h := (kseq (b := c11) rfl (fun σ h => n11_eq k G σ h)).trans (n10_eq0 k G σ h)
noncomputable def c37 : Code := cL c9
@[simp] def n9 {R : Type} (k : Nat) (G : KT1 R) (v1 v2 v4 v6 v7 v8 v9 v10 : GV) (h : Heap) : Option R := (kloadA 3 h v8).bind fun v48 => (kloadA 3 h v2).bind fun v49 => (kF false HH fn.laws_toChain [v49] h).bind fun r => kr r fun v50 h => (kN NN fn.laws_eqChain [v48, v50] h).bind fun v51 => (kun .not v51).bind fun v52 => kcond v52 (G .ret (.bool false) h) (n10 k G v1 v2 v4 v6 v7 v8 v9 v10 h)
theorem n9_eq0 {R : Type} (k : Nat) (G : KT1 R) (σ : GS) (h : Heap) : KC k 104 c37 σ h (fun x σ h => kx x (n10 k G (σ 1) (σ 2) (σ 4) (σ 6) (σ 7) (σ 8) (σ 9) (σ 10) h) (G x (σ 4) h)) = n9 k G (σ 1) (σ 2) (σ 4) (σ 6) (σ 7) (σ 8) (σ 9) (σ 10) h := by kernel_rfl
theorem n9_eq {R : Type} (k : Nat) (G : KT1 R) (σ : GS) (h : Heap) : KC k 104 c9 σ h (fun x σ h => G x (σ 4) h) = n9 k G (σ 1) (σ 2) (σ 4) (σ 6) (σ 7) (σ 8) (σ 9) (σ 10) h := (kseq (b := c10) rfl (fun σ h => n10_eq k G σ h)).trans (n9_eq0 k G σ h)
noncomputable def c38 : Code := cL c8
noncomputable def c39 : Code := cR c38
@[simp] def n39 {R : Type} (k : Nat) (G : KT8 R) (v1 v2 v4 v6 v7 v8 v9 v10 v47 : GV) (h : Heap) : Option R := kcond v47 (G .ret v1 v2 (.bool false) v6 v7 v8 v9 v10 h) (G .nrm v1 v2 v4 v6 v7 v8 v9 v10 h)
theorem n39_eq {R : Type} (k : Nat) (G : KT8 R) (σ : GS) (h : Heap) : KC k 104 c39 σ h (fun x σ h => G x (σ 1) (σ 2) (σ 4) (σ 6) (σ 7) (σ 8) (σ 9) (σ 10) h) = n39 k G (σ 1) (σ 2) (σ 4) (σ 6) (σ 7) (σ 8) (σ 9) (σ 10) (σ 47) h := by kernel_rfl
noncomputable def c40 : Code := cL c38
noncomputable def o40 : Array Oper := cO c40
@[simp] def g40_2 {R : Type} (k : Nat) (G : KT9 R) (v1 v2 v4 v6 v7 v8 v9 v10 v43 v46 : GV) (h : Heap) : Option R := (kpick v43 (.bool true) v46).bind fun v47 => G .nrm v1 v2 v4 v6 v7 v8 v9 v10 v47 h
theorem g40_2_eq {R : Type} (k : Nat) (G : KT9 R) (σ : GS) (h : Heap) : kgroups PP cfg NN HH 104 o40 [(none, [8])] σ h (fun σ h => G .nrm (σ 1) (σ 2) (σ 4) (σ 6) (σ 7) (σ 8) (σ 9) (σ 10) (σ 47) h) = g40_2 k G (σ 1) (σ 2) (σ 4) (σ 6) (σ 7) (σ 8) (σ 9) (σ 10) (σ 43) (σ 46) h := by kernel_rfl
@[simp] def g40_1 {R : Type} (k : Nat) (G : KT9 R) (v1 v2 v4 v6 v7 v8 v9 v10 v43 : GV) (h : Heap) : Option R := bif tr false v43 then (keqB .neq v10 v7).bind fun v46 => g40_2 k G v1 v2 v4 v6 v7 v8 v9 v10 v43 v46 h else g40_2 k G v1 v2 v4 v6 v7 v8 v9 v10 v43 .un h
theorem g40_1_eq0 {R : Type} (k : Nat) (G : KT9 R) (σ : GS) (h : Heap) : kgroup1 PP cfg NN HH 104 o40 (some (4, false), [5, 6, 7]) σ h (fun σ h => g40_2 k G (σ 1) (σ 2) (σ 4) (σ 6) (σ 7) (σ 8) (σ 9) (σ 10) (σ 43) (σ 46) h) = g40_1 k G (σ 1) (σ 2) (σ 4) (σ 6) (σ 7) (σ 8) (σ 9) (σ 10) (σ 43) h := by kernel_rfl
theorem g40_1_eq {R : Type} (k : Nat) (G : KT9 R) (σ : GS) (h : Heap) : kgroups PP cfg NN HH 104 o40 [(some (4, false), [5, 6, 7]), (none, [8])] σ h (fun σ h => G .nrm (σ 1) (σ 2) (σ 4) (σ 6) (σ 7) (σ 8) (σ 9) (σ 10) (σ 47) h) = g40_1 k G (σ 1) (σ 2) (σ 4) (σ 6) (σ 7) (σ 8) (σ 9) (σ 10) (σ 43) h := (kgroups_cons (fun σ h => g40_2_eq k G σ h)).trans (g40_1_eq0 k G σ h)
@[simp] def g40_0 {R : Type} (k : Nat) (G : KT9 R) (v1 v2 v4 v6 v7 v8 v9 v10 : GV) (h : Heap) : Option R := (kloadA 3 h v9).bind fun v39 => (kloadA 3 h v6).bind fun v40 => (kN NN fn.laws_eqChain [v39, v40] h).bind fun v41 => (kun .not v41).bind fun v42 => g40_1 k G v1 v2 v4 v6 v7 v8 v9 v10 v42 h
theorem g40_0_eq0 {R : Type} (k : Nat) (G : KT9 R) (σ : GS) (h : Heap) : kgroup1 PP cfg NN HH 104 o40 (none, [0, 1, 2, 3, 4]) σ h (fun σ h => g40_1 k G (σ 1) (σ 2) (σ 4) (σ 6) (σ 7) (σ 8) (σ 9) (σ 10) (σ 43) h) = g40_0 k G (σ 1) (σ 2) (σ 4) (σ 6) (σ 7) (σ 8) (σ 9) (σ 10) h := by kernel_rfl
theorem g40_0_eq {R : Type} (k : Nat) (G : KT9 R) (σ : GS) (h : Heap) : kgroups PP cfg NN HH 104 o40 [(none, [0, 1, 2, 3, 4]), (some (4, false), [5, 6, 7]), (none, [8])] σ h (fun σ h => G .nrm (σ 1) (σ 2) (σ 4) (σ 6) (σ 7) (σ 8) (σ 9) (σ 10) (σ 47) h) = g40_0 k G (σ 1) (σ 2) (σ 4) (σ 6) (σ 7) (σ 8) (σ 9) (σ 10) h := (kgroups_cons (fun σ h => g40_1_eq k G σ h)).trans (g40_0_eq0 k G σ h)
@[simp] def n40 {R : Type} (k : Nat) (G : KT9 R) (v1 v2 v4 v6 v7 v8 v9 v10 : GV) (h : Heap) : Option R := g40_0 k G v1 v2 v4 v6 v7 v8 v9 v10 h
theorem n40_eq {R : Type} (k : Nat) (G : KT9 R) (σ : GS) (h : Heap) : KC k 104 c40 σ h (fun x σ h => G x (σ 1) (σ 2) (σ 4) (σ 6) (σ 7) (σ 8) (σ 9) (σ 10) (σ 47) h) = n40 k G (σ 1) (σ 2) (σ 4) (σ 6) (σ 7) (σ 8) (σ 9) (σ 10) h := (kregion_eq (id := 10) (draw := false) (ops := o40) (gs := [(none, [0, 1, 2, 3, 4]), (some (4, false), [5, 6, 7]), (none, [8])]) (by kernel_rfl) (by kernel_rfl) (by kernel_rfl)).trans (g40_0_eq k G σ h)
@[simp] def n38 {R : Type} (k : Nat) (G : KT8 R) (v1 v2 v4 v6 v7 v8 v9 v10 : GV) (h : Heap) : Option R := n40 k (fun x v1 v2 v4 v6 v7 v8 v9 v10 v47 h => kx x (n39 k G v1 v2 v4 v6 v7 v8 v9 v10 v47 h) (G x v1 v2 v4 v6 v7 v8 v9 v10 h)) v1 v2 v4 v6 v7 v8 v9 v10 h
theorem n38_eq {R : Type} (k : Nat) (G : KT8 R) (σ : GS) (h : Heap) : KC k 104 c38 σ h (fun x σ h => G x (σ 1) (σ 2) (σ 4) (σ 6) (σ 7) (σ 8) (σ 9) (σ 10) h) = n38 k G (σ 1) (σ 2) (σ 4) (σ 6) (σ 7) (σ 8) (σ 9) (σ 10) h := (kseq (b := c39) rfl (fun σ h => n39_eq k G σ h)).trans (n40_eq k (fun x v1 v2 v4 v6 v7 v8 v9 v10 v47 h => kx x (n39 k G v1 v2 v4 v6 v7 v8 v9 v10 v47 h) (G x v1 v2 v4 v6 v7 v8 v9 v10 h)) σ h)
@[simp] def n8 {R : Type} (k : Nat) (G : KT1 R) (v1 v2 v4 v6 v7 v8 v9 v10 : GV) (h : Heap) : Option R := n38 k (fun x v1 v2 v4 v6 v7 v8 v9 v10 h => kx x (n9 k G v1 v2 v4 v6 v7 v8 v9 v10 h) (G x v4 h)) v1 v2 v4 v6 v7 v8 v9 v10 h
theorem n8_eq {R : Type} (k : Nat) (G : KT1 R) (σ : GS) (h : Heap) : KC k 104 c8 σ h (fun x σ h => G x (σ 4) h) = n8 k G (σ 1) (σ 2) (σ 4) (σ 6) (σ 7) (σ 8) (σ 9) (σ 10) h := (kseq (b := c9) rfl (fun σ h => n9_eq k G σ h)).trans (n38_eq k (fun x v1 v2 v4 v6 v7 v8 v9 v10 h => kx x (n9 k G v1 v2 v4 v6 v7 v8 v9 v10 h) (G x v4 h)) σ h)
noncomputable def c41 : Code := cL c7
@[simp] def n7 {R : Type} (k : Nat) (G : KT1 R) (v1 v2 v4 v6 v7 v8 : GV) (h : Heap) : Option R := (kloadA 3 h v8).bind fun v34 => (kF false HH fn.impl_Submit [v34, v1] h).bind fun r => kr r fun v36 h => (kxt 0 v36).bind fun v37 => (kxt 1 v36).bind fun v38 => kalloc [.nils, .nils, .nils] h fun v9 h => (kstore 3 h v9 v37).bind fun h => n8 k G v1 v2 v4 v6 v7 v8 v9 v38 h
theorem n7_eq0 {R : Type} (k : Nat) (G : KT1 R) (σ : GS) (h : Heap) : KC k 104 c41 σ h (fun x σ h => kx x (n8 k G (σ 1) (σ 2) (σ 4) (σ 6) (σ 7) (σ 8) (σ 9) (σ 10) h) (G x (σ 4) h)) = n7 k G (σ 1) (σ 2) (σ 4) (σ 6) (σ 7) (σ 8) h := by kernel_rfl
theorem n7_eq {R : Type} (k : Nat) (G : KT1 R) (σ : GS) (h : Heap) : KC k 104 c7 σ h (fun x σ h => G x (σ 4) h) = n7 k G (σ 1) (σ 2) (σ 4) (σ 6) (σ 7) (σ 8) h := (kseq (b := c8) rfl (fun σ h => n8_eq k G σ h)).trans (n7_eq0 k G σ h)
noncomputable def c42 : Code := cL c6
@[simp] def n6 {R : Type} (k : Nat) (G : KT1 R) (v1 v2 v4 v6 v7 : GV) (h : Heap) : Option R := (kloadA 3 h v2).bind fun v31 => (kF false HH fn.laws_toChain [v31] h).bind fun r => kr r fun v32 h => kalloc [.nils, .nils, .nils] h fun v8 h => (kstore 3 h v8 v32).bind fun h => n7 k G v1 v2 v4 v6 v7 v8 h
theorem n6_eq0 {R : Type} (k : Nat) (G : KT1 R) (σ : GS) (h : Heap) : KC k 104 c42 σ h (fun x σ h => kx x (n7 k G (σ 1) (σ 2) (σ 4) (σ 6) (σ 7) (σ 8) h) (G x (σ 4) h)) = n6 k G (σ 1) (σ 2) (σ 4) (σ 6) (σ 7) h := by kernel_rfl
theorem n6_eq {R : Type} (k : Nat) (G : KT1 R) (σ : GS) (h : Heap) : KC k 104 c6 σ h (fun x σ h => G x (σ 4) h) = n6 k G (σ 1) (σ 2) (σ 4) (σ 6) (σ 7) h := (kseq (b := c7) rfl (fun σ h => n7_eq k G σ h)).trans (n6_eq0 k G σ h)
noncomputable def c43 : Code := cL c5
@[simp] def n5 {R : Type} (k : Nat) (G : KT1 R) (v1 v2 v4 : GV) (h : Heap) : Option R := (kloadA 3 h v2).bind fun v25 => (kF false HH fn.laws_toChain [v25] h).bind fun r => kr r fun v26 h => (kN NN fn.spec_Submit [v26, v1] h).bind fun v28 => (kxt 0 v28).bind fun v29 => (kxt 1 v28).bind fun v30 => kalloc [.nils, .nils, .nils] h fun v6 h => (kstore 3 h v6 v29).bind fun h => n6 k G v1 v2 v4 v6 v30 h
theorem n5_eq0 {R : Type} (k : Nat) (G : KT1 R) (σ : GS) (h : Heap) : KC k 104 c43 σ h (fun x σ h => kx x (n6 k G (σ 1) (σ 2) (σ 4) (σ 6) (σ 7) h) (G x (σ 4) h)) = n5 k G (σ 1) (σ 2) (σ 4) h := by kernel_rfl
theorem n5_eq {R : Type} (k : Nat) (G : KT1 R) (σ : GS) (h : Heap) : KC k 104 c5 σ h (fun x σ h => G x (σ 4) h) = n5 k G (σ 1) (σ 2) (σ 4) h := (kseq (b := c6) rfl (fun σ h => n6_eq k G σ h)).trans (n5_eq0 k G σ h)
noncomputable def c44 : Code := cL c4
@[simp] def n4 {R : Type} (k : Nat) (G : KT1 R) (v1 v2 v4 v5 : GV) (h : Heap) : Option R := (kbin .lss v5 (.int .i64 0)).bind fun v23 => kcond v23 (G .ret (.bool true) h) (n5 k G v1 v2 v4 h)
theorem n4_eq0 {R : Type} (k : Nat) (G : KT1 R) (σ : GS) (h : Heap) : KC k 104 c44 σ h (fun x σ h => kx x (n5 k G (σ 1) (σ 2) (σ 4) h) (G x (σ 4) h)) = n4 k G (σ 1) (σ 2) (σ 4) (σ 5) h := by kernel_rfl
theorem n4_eq {R : Type} (k : Nat) (G : KT1 R) (σ : GS) (h : Heap) : KC k 104 c4 σ h (fun x σ h => G x (σ 4) h) = n4 k G (σ 1) (σ 2) (σ 4) (σ 5) h := (kseq (b := c5) rfl (fun σ h => n5_eq k G σ h)).trans (n4_eq0 k G σ h)
noncomputable def c45 : Code := cL c3
@[simp] def n3 {R : Type} (k : Nat) (G : KT1 R) (v1 v2 v4 v5 : GV) (h : Heap) : Option R := (kloadA 3 h v2).bind fun v19 => (kN NN fn.laws_szChain [v19, v5] h).bind fun v21 => n4 k G v1 v2 v4 v21 h
theorem n3_eq0 {R : Type} (k : Nat) (G : KT1 R) (σ : GS) (h : Heap) : KC k 104 c45 σ h (fun x σ h => kx x (n4 k G (σ 1) (σ 2) (σ 4) (σ 5) h) (G x (σ 4) h)) = n3 k G (σ 1) (σ 2) (σ 4) (σ 5) h := by kernel_rfl
theorem n3_eq {R : Type} (k : Nat) (G : KT1 R) (σ : GS) (h : Heap) : KC k 104 c3 σ h (fun x σ h => G x (σ 4) h) = n3 k G (σ 1) (σ 2) (σ 4) (σ 5) h := (kseq (b := c4) rfl (fun σ h => n4_eq k G σ h)).trans (n3_eq0 k G σ h)
noncomputable def c46 : Code := cL c2
@[simp] def n2 {R : Type} (k : Nat) (G : KT1 R) (v1 v2 v4 : GV) (h : Heap) : Option R := n3 k G v1 v2 v4 (.int .i64 1048576) h
theorem n2_eq0 {R : Type} (k : Nat) (G : KT1 R) (σ : GS) (h : Heap) : KC k 104 c46 σ h (fun x σ h => kx x (n3 k G (σ 1) (σ 2) (σ 4) (σ 5) h) (G x (σ 4) h)) = n2 k G (σ 1) (σ 2) (σ 4) h := by kernel_rfl
theorem n2_eq {R : Type} (k : Nat) (G : KT1 R) (σ : GS) (h : Heap) : KC k 104 c2 σ h (fun x σ h => G x (σ 4) h) = n2 k G (σ 1) (σ 2) (σ 4) h := (kseq (b := c3) rfl (fun σ h => n3_eq k G σ h)).trans (n2_eq0 k G σ h)
noncomputable def c47 : Code := cL c1
@[simp] def n1 {R : Type} (k : Nat) (G : KT1 R) (v1 v2 v4 : GV) (h : Heap) : Option R := (klenS v1).bind fun v17 => (kbin .gtr v17 (.int .i64 1048576)).bind fun v18 => kcond v18 (G .ret (.bool true) h) (n2 k G v1 v2 v4 h)
theorem n1_eq0 {R : Type} (k : Nat) (G : KT1 R) (σ : GS) (h : Heap) : KC k 104 c47 σ h (fun x σ h => kx x (n2 k G (σ 1) (σ 2) (σ 4) h) (G x (σ 4) h)) = n1 k G (σ 1) (σ 2) (σ 4) h := by kernel_rfl
theorem n1_eq {R : Type} (k : Nat) (G : KT1 R) (σ : GS) (h : Heap) : KC k 104 c1 σ h (fun x σ h => G x (σ 4) h) = n1 k G (σ 1) (σ 2) (σ 4) h := (kseq (b := c2) rfl (fun σ h => n2_eq k G σ h)).trans (n1_eq0 k G σ h)
noncomputable def c48 : Code := cL c0
@[simp] def n0 {R : Type} (k : Nat) (G : KT1 R) (v0 v1 : GV) (h : Heap) : Option R := kbox v0 h fun v2 h => n1 k G v1 v2 (.bool false) h
theorem n0_eq0 {R : Type} (k : Nat) (G : KT1 R) (σ : GS) (h : Heap) : KC k 104 c48 σ h (fun x σ h => kx x (n1 k G (σ 1) (σ 2) (σ 4) h) (G x (σ 4) h)) = n0 k G (σ 0) (σ 1) h := by kernel_rfl
theorem n0_eq {R : Type} (k : Nat) (G : KT1 R) (σ : GS) (h : Heap) : KC k 104 c0 σ h (fun x σ h => G x (σ 4) h) = n0 k G (σ 0) (σ 1) h := (kseq (b := c1) rfl (fun σ h => n1_eq k G σ h)).trans (n0_eq0 k G σ h)
def run {R : Type} (k : Nat) (a0 : GV) (a1 : GV) (h : Heap) (fin : GV → Heap → Option R) : Option R := n0 k (fun x v4 h => kend x (fin v4 h)) a0 a1 h
theorem run_eq {R : Type} (k : Nat) (a0 : GV) (a1 : GV) (h : Heap) (fin : GV → Heap → Option R) : kfun PP cfg NN HH k fn.laws_FnExactSubmit [a0, a1] h fin = run k a0 a1 h fin := (kfun_eq (nt := 104) (c := c0) (show PP.funcs[fn.laws_FnExactSubmit]? = some Try.f5 by kernel_rfl) (by kernel_rfl) (by kernel_rfl) (fun x σ h => by cases x <;> kernel_rfl)).trans (n0_eq k (fun x v4 h => kend x (fin v4 h)) _ h)
theorem gives {k : Nat} {a0 : GV} {a1 : GV} {v : GV} (e : run k a0 a1 [] finN = some v) : NN fn.laws_FnExactSubmit [a0, a1] = some v := nω_of (by kernel_rfl) ((run_eq k a0 a1 [] finN).trans e)
end S.laws_FnExactSubmit
end
end Go.Proofs.Ytopmnigfklgnkaa.G
