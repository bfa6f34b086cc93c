/- What these functions do, told for open values, out of the machine with continuations. Printed by a program of this session. -/
import Derived.Test.YtopmnigfklgnkaaSA
import Derived.KernelRfl
namespace Go.Proofs.Ytopmnigfklgnkaa.G
open Go.RowKit
set_option linter.unusedVariables false
set_option maxRecDepth 100000
noncomputable section
/-! laws_FnExactCarry -/
namespace S.laws_FnExactCarry
noncomputable def c0 : Code := bodyOf Try.f7
noncomputable def c1 : Code := cR c0
noncomputable def c2 : Code := cR c1
noncomputable def c3 : Code := cR c2
noncomputable def c4 : Code := cR c3
noncomputable def c5 : Code := cR c4
noncomputable def c6 : Code := cR c5
noncomputable def c7 : Code := cR c6
noncomputable def c8 : Code := cR c7
noncomputable def c9 : Code := cR c8
noncomputable def c10 : Code := cR c9
noncomputable def c11 : Code := cR c10
noncomputable def c12 : Code := cR c11
noncomputable def c13 : Code := cR c12
noncomputable def c14 : Code := cR c13
noncomputable def c15 : Code := cR c14
noncomputable def c16 : Code := cR c15
noncomputable def c17 : Code := cR c16
noncomputable def c18 : Code := cR c17
noncomputable def c19 : Code := cR c18
noncomputable def c20 : Code := cR c19
@[simp] def n20 {R : Type} (k : Nat) (G : KT1 R) (v4 v9 v12 : GV) (h : Heap) : Option R := (kloadA 3 h v9).bind fun v93 => (kN NN fn.laws_heldChain [v93, (.int .i64 1)] h).bind fun v95 => (kbin .lss v95 (.int .i64 0)).bind fun v97 => kcond v97 (G .ret (.bool false) h) ((kbin .neq v95 v12).bind fun v100 => kcond v100 (G .ret (.bool false) h) (G .ret (.bool true) h))
theorem n20_eq {R : Type} (k : Nat) (G : KT1 R) (σ : GS) (h : Heap) : KC k 101 c20 σ h (fun x σ h => G x (σ 4) h) = n20 k G (σ 4) (σ 9) (σ 12) h := by kernel_rfl
noncomputable def c21 : Code := cL c19
noncomputable def c22 : Code := cR c21
@[simp] def n22 {R : Type} (k : Nat) (G : KT3 R) (v4 v9 v12 v92 : GV) (h : Heap) : Option R := kcond v92 (G .ret (.bool false) v9 v12 h) (G .nrm v4 v9 v12 h)
theorem n22_eq {R : Type} (k : Nat) (G : KT3 R) (σ : GS) (h : Heap) : KC k 101 c22 σ h (fun x σ h => G x (σ 4) (σ 9) (σ 12) h) = n22 k G (σ 4) (σ 9) (σ 12) (σ 92) h := by kernel_rfl
noncomputable def c23 : Code := cL c21
noncomputable def o23 : Array Oper := cO c23
@[simp] def g23_2 {R : Type} (k : Nat) (G : KT4 R) (v4 v9 v12 v88 v91 : GV) (h : Heap) : Option R := (kpick v88 (.bool true) v91).bind fun v92 => G .nrm v4 v9 v12 v92 h
theorem g23_2_eq {R : Type} (k : Nat) (G : KT4 R) (σ : GS) (h : Heap) : kgroups PP cfg NN HH 101 o23 [(none, [8])] σ h (fun σ h => G .nrm (σ 4) (σ 9) (σ 12) (σ 92) h) = g23_2 k G (σ 4) (σ 9) (σ 12) (σ 88) (σ 91) h := by kernel_rfl
@[simp] def g23_1 {R : Type} (k : Nat) (G : KT4 R) (v4 v7 v9 v12 v15 v88 : GV) (h : Heap) : Option R := bif tr false v88 then (keqB .neq v15 v7).bind fun v91 => g23_2 k G v4 v9 v12 v88 v91 h else g23_2 k G v4 v9 v12 v88 .un h
theorem g23_1_eq0 {R : Type} (k : Nat) (G : KT4 R) (σ : GS) (h : Heap) : kgroup1 PP cfg NN HH 101 o23 (some (4, false), [5, 6, 7]) σ h (fun σ h => g23_2 k G (σ 4) (σ 9) (σ 12) (σ 88) (σ 91) h) = g23_1 k G (σ 4) (σ 7) (σ 9) (σ 12) (σ 15) (σ 88) h := by kernel_rfl
theorem g23_1_eq {R : Type} (k : Nat) (G : KT4 R) (σ : GS) (h : Heap) : kgroups PP cfg NN HH 101 o23 [(some (4, false), [5, 6, 7]), (none, [8])] σ h (fun σ h => G .nrm (σ 4) (σ 9) (σ 12) (σ 92) h) = g23_1 k G (σ 4) (σ 7) (σ 9) (σ 12) (σ 15) (σ 88) h := (kgroups_cons (fun σ h => g23_2_eq k G σ h)).trans (g23_1_eq0 k G σ h)
@[simp] def g23_0 {R : Type} (k : Nat) (G : KT4 R) (v4 v6 v7 v9 v12 v14 v15 : GV) (h : Heap) : Option R := (kloadA 3 h v14).bind fun v84 => (kloadA 3 h v6).bind fun v85 => (kN NN fn.laws_eqChain [v84, v85] h).bind fun v86 => (kun .not v86).bind fun v87 => g23_1 k G v4 v7 v9 v12 v15 v87 h
theorem g23_0_eq0 {R : Type} (k : Nat) (G : KT4 R) (σ : GS) (h : Heap) : kgroup1 PP cfg NN HH 101 o23 (none, [0, 1, 2, 3, 4]) σ h (fun σ h => g23_1 k G (σ 4) (σ 7) (σ 9) (σ 12) (σ 15) (σ 88) h) = g23_0 k G (σ 4) (σ 6) (σ 7) (σ 9) (σ 12) (σ 14) (σ 15) h := by kernel_rfl
theorem g23_0_eq {R : Type} (k : Nat) (G : KT4 R) (σ : GS) (h : Heap) : kgroups PP cfg NN HH 101 o23 [(none, [0, 1, 2, 3, 4]), (some (4, false), [5, 6, 7]), (none, [8])] σ h (fun σ h => G .nrm (σ 4) (σ 9) (σ 12) (σ 92) h) = g23_0 k G (σ 4) (σ 6) (σ 7) (σ 9) (σ 12) (σ 14) (σ 15) h := (kgroups_cons (fun σ h => g23_1_eq k G σ h)).trans (g23_0_eq0 k G σ h)
@[simp] def n23 {R : Type} (k : Nat) (G : KT4 R) (v4 v6 v7 v9 v12 v14 v15 : GV) (h : Heap) : Option R := g23_0 k G v4 v6 v7 v9 v12 v14 v15 h
theorem n23_eq {R : Type} (k : Nat) (G : KT4 R) (σ : GS) (h : Heap) : KC k 101 c23 σ h (fun x σ h => G x (σ 4) (σ 9) (σ 12) (σ 92) h) = n23 k G (σ 4) (σ 6) (σ 7) (σ 9) (σ 12) (σ 14) (σ 15) h := (kregion_eq (id := 25) (draw := false) (ops := o23) (gs := [(none, [0, 1, 2, 3, 4]), (some (4, false), [5, 6, 7]), (none, [8])]) (by kernel_rfl) (by kernel_rfl) (by kernel_rfl)).trans (g23_0_eq k G σ h)
@[simp] def n21 {R : Type} (k : Nat) (G : KT3 R) (v4 v6 v7 v9 v12 v14 v15 : GV) (h : Heap) : Option R := n23 k (fun x v4 v9 v12 v92 h => kx x (n22 k G v4 v9 v12 v92 h) (G x v4 v9 v12 h)) v4 v6 v7 v9 v12 v14 v15 h
theorem n21_eq {R : Type} (k : Nat) (G : KT3 R) (σ : GS) (h : Heap) : KC k 101 c21 σ h (fun x σ h => G x (σ 4) (σ 9) (σ 12) h) = n21 k G (σ 4) (σ 6) (σ 7) (σ 9) (σ 12) (σ 14) (σ 15) h := (kseq (b := c22) rfl (fun σ h => n22_eq k G σ h)).trans (n23_eq k (fun x v4 v9 v12 v92 h => kx x (n22 k G v4 v9 v12 v92 h) (G x v4 v9 v12 h)) σ h)
@[simp] def n19 {R : Type} (k : Nat) (G : KT1 R) (v4 v6 v7 v9 v12 v14 v15 : GV) (h : Heap) : Option R := n21 k (fun x v4 v9 v12 h => kx x (n20 k G v4 v9 v12 h) (G x v4 h)) v4 v6 v7 v9 v12 v14 v15 h
theorem n19_eq {R : Type} (k : Nat) (G : KT1 R) (σ : GS) (h : Heap) : KC k 101 c19 σ h (fun x σ h => G x (σ 4) h) = n19 k G (σ 4) (σ 6) (σ 7) (σ 9) (σ 12) (σ 14) (σ 15) h := (kseq (b := c20) rfl (fun σ h => n20_eq k G σ h)).trans (n21_eq k (fun x v4 v9 v12 h => kx x (n20 k G v4 v9 v12 h) (G x v4 h)) σ h)
noncomputable def c24 : Code := cL c18
@[simp] def n18 {R : Type} (k : Nat) (G : KT1 R) (v1 v2 v4 v6 v7 v9 v12 : GV) (h : Heap) : Option R := (kloadA 3 h v2).bind fun v78 => (kF false HH fn.laws_toChain [v78] h).bind fun r => kr r fun v79 h => (kF false HH fn.impl_Carry [v79, v1] h).bind fun r => kr r fun v81 h => (kxt 0 v81).bind fun v82 => (kxt 1 v81).bind fun v83 => kalloc [.nils, .nils, .nils] h fun v14 h => (kstore 3 h v14 v82).bind fun h => n19 k G v4 v6 v7 v9 v12 v14 v83 h
theorem n18_eq0 {R : Type} (k : Nat) (G : KT1 R) (σ : GS) (h : Heap) : KC k 101 c24 σ h (fun x σ h => kx x (n19 k G (σ 4) (σ 6) (σ 7) (σ 9) (σ 12) (σ 14) (σ 15) h) (G x (σ 4) h)) = n18 k G (σ 1) (σ 2) (σ 4) (σ 6) (σ 7) (σ 9) (σ 12) h := by kernel_rfl
theorem n18_eq {R : Type} (k : Nat) (G : KT1 R) (σ : GS) (h : Heap) : KC k 101 c18 σ h (fun x σ h => G x (σ 4) h) = n18 k G (σ 1) (σ 2) (σ 4) (σ 6) (σ 7) (σ 9) (σ 12) h := (kseq (b := c19) rfl (fun σ h => n19_eq k G σ h)).trans (n18_eq0 k G σ h)
noncomputable def c25 : Code := cL c17
@[simp] def n17 {R : Type} (k : Nat) (G : KT1 R) (v1 v2 v4 v6 v7 v9 v12 v13 : GV) (h : Heap) : Option R := (kbin .neq v13 v12).bind fun v76 => kcond v76 (G .ret (.bool false) h) (n18 k G v1 v2 v4 v6 v7 v9 v12 h)
theorem n17_eq0 {R : Type} (k : Nat) (G : KT1 R) (σ : GS) (h : Heap) : KC k 101 c25 σ h (fun x σ h => kx x (n18 k G (σ 1) (σ 2) (σ 4) (σ 6) (σ 7) (σ 9) (σ 12) h) (G x (σ 4) h)) = n17 k G (σ 1) (σ 2) (σ 4) (σ 6) (σ 7) (σ 9) (σ 12) (σ 13) h := by kernel_rfl
theorem n17_eq {R : Type} (k : Nat) (G : KT1 R) (σ : GS) (h : Heap) : KC k 101 c17 σ h (fun x σ h => G x (σ 4) h) = n17 k G (σ 1) (σ 2) (σ 4) (σ 6) (σ 7) (σ 9) (σ 12) (σ 13) h := (kseq (b := c18) rfl (fun σ h => n18_eq k G σ h)).trans (n17_eq0 k G σ h)
noncomputable def c26 : Code := cL c16
@[simp] def n16 {R : Type} (k : Nat) (G : KT1 R) (v1 v2 v4 v6 v7 v9 v12 v13 : GV) (h : Heap) : Option R := (kbin .lss v13 (.int .i64 0)).bind fun v73 => kcond v73 (G .ret (.bool false) h) (n17 k G v1 v2 v4 v6 v7 v9 v12 v13 h)
theorem n16_eq0 {R : Type} (k : Nat) (G : KT1 R) (σ : GS) (h : Heap) : KC k 101 c26 σ h (fun x σ h => kx x (n17 k G (σ 1) (σ 2) (σ 4) (σ 6) (σ 7) (σ 9) (σ 12) (σ 13) h) (G x (σ 4) h)) = n16 k G (σ 1) (σ 2) (σ 4) (σ 6) (σ 7) (σ 9) (σ 12) (σ 13) h := by kernel_rfl
theorem n16_eq {R : Type} (k : Nat) (G : KT1 R) (σ : GS) (h : Heap) : KC k 101 c16 σ h (fun x σ h => G x (σ 4) h) = n16 k G (σ 1) (σ 2) (σ 4) (σ 6) (σ 7) (σ 9) (σ 12) (σ 13) h := (kseq (b := c17) rfl (fun σ h => n17_eq k G σ h)).trans (n16_eq0 k G σ h)
noncomputable def c27 : Code := cL c15
@[simp] def n15 {R : Type} (k : Nat) (G : KT1 R) (v1 v2 v4 v6 v7 v9 v12 v13 : GV) (h : Heap) : Option R := (kloadA 3 h v9).bind fun v69 => (kN NN fn.laws_heldChain [v69, v13] h).bind fun v71 => n16 k G v1 v2 v4 v6 v7 v9 v12 v71 h
theorem n15_eq0 {R : Type} (k : Nat) (G : KT1 R) (σ : GS) (h : Heap) : KC k 101 c27 σ h (fun x σ h => kx x (n16 k G (σ 1) (σ 2) (σ 4) (σ 6) (σ 7) (σ 9) (σ 12) (σ 13) h) (G x (σ 4) h)) = n15 k G (σ 1) (σ 2) (σ 4) (σ 6) (σ 7) (σ 9) (σ 12) (σ 13) h := by kernel_rfl
theorem n15_eq {R : Type} (k : Nat) (G : KT1 R) (σ : GS) (h : Heap) : KC k 101 c15 σ h (fun x σ h => G x (σ 4) h) = n15 k G (σ 1) (σ 2) (σ 4) (σ 6) (σ 7) (σ 9) (σ 12) (σ 13) h := (kseq (b := c16) rfl (fun σ h => n16_eq k G σ h)).trans (n15_eq0 k G σ h)
noncomputable def c28 : Code := cL c14
@[simp] def n14 {R : Type} (k : Nat) (G : KT1 R) (v1 v2 v4 v6 v7 v9 v12 : GV) (h : Heap) : Option R := n15 k G v1 v2 v4 v6 v7 v9 v12 (.int .i64 1) h
theorem n14_eq0 {R : Type} (k : Nat) (G : KT1 R) (σ : GS) (h : Heap) : KC k 101 c28 σ h (fun x σ h => kx x (n15 k G (σ 1) (σ 2) (σ 4) (σ 6) (σ 7) (σ 9) (σ 12) (σ 13) h) (G x (σ 4) h)) = n14 k G (σ 1) (σ 2) (σ 4) (σ 6) (σ 7) (σ 9) (σ 12) h := by kernel_rfl
theorem n14_eq {R : Type} (k : Nat) (G : KT1 R) (σ : GS) (h : Heap) : KC k 101 c14 σ h (fun x σ h => G x (σ 4) h) = n14 k G (σ 1) (σ 2) (σ 4) (σ 6) (σ 7) (σ 9) (σ 12) h := (kseq (b := c15) rfl (fun σ h => n15_eq k G σ h)).trans (n14_eq0 k G σ h)
noncomputable def c29 : Code := cL c13
@[simp] def n13 {R : Type} (k : Nat) (G : KT1 R) (v1 v2 v4 v6 v7 v9 v12 : GV) (h : Heap) : Option R := (kloadA 3 h v9).bind fun v66 => (HH fn.laws_markChain [v66, v12] h).bind fun r => kr r fun v68 h => n14 k G v1 v2 v4 v6 v7 v9 v68 h
theorem n13_eq0 {R : Type} (k : Nat) (G : KT1 R) (σ : GS) (h : Heap) : KC k 101 c29 σ h (fun x σ h => kx x (n14 k G (σ 1) (σ 2) (σ 4) (σ 6) (σ 7) (σ 9) (σ 12) h) (G x (σ 4) h)) = n13 k G (σ 1) (σ 2) (σ 4) (σ 6) (σ 7) (σ 9) (σ 12) h := by kernel_rfl
theorem n13_eq {R : Type} (k : Nat) (G : KT1 R) (σ : GS) (h : Heap) : KC k 101 c13 σ h (fun x σ h => G x (σ 4) h) = n13 k G (σ 1) (σ 2) (σ 4) (σ 6) (σ 7) (σ 9) (σ 12) h := (kseq (b := c14) rfl (fun σ h => n14_eq k G σ h)).trans (n13_eq0 k G σ h)
noncomputable def c30 : Code := cL c12
@[simp] def n12 {R : Type} (k : Nat) (G : KT1 R) (v1 v2 v4 v6 v7 v9 : GV) (h : Heap) : Option R := n13 k G v1 v2 v4 v6 v7 v9 (.int .i64 1) h
theorem n12_eq0 {R : Type} (k : Nat) (G : KT1 R) (σ : GS) (h : Heap) : KC k 101 c30 σ h (fun x σ h => kx x (n13 k G (σ 1) (σ 2) (σ 4) (σ 6) (σ 7) (σ 9) (σ 12) h) (G x (σ 4) h)) = n12 k G (σ 1) (σ 2) (σ 4) (σ 6) (σ 7) (σ 9) h := by kernel_rfl
theorem n12_eq {R : Type} (k : Nat) (G : KT1 R) (σ : GS) (h : Heap) : KC k 101 c12 σ h (fun x σ h => G x (σ 4) h) = n12 k G (σ 1) (σ 2) (σ 4) (σ 6) (σ 7) (σ 9) h := (kseq (b := c13) rfl (fun σ h => n13_eq k G σ h)).trans (n12_eq0 k G σ h)
noncomputable def c31 : Code := cL c11
noncomputable def c32 : Code := cR c31
@[simp] def n32 {R : Type} (k : Nat) (G : KT6 R) (v1 v2 v4 v6 v7 v9 v65 : GV) (h : Heap) : Option R := kcond v65 (G .ret v1 v2 (.bool false) v6 v7 v9 h) (G .nrm v1 v2 v4 v6 v7 v9 h)
theorem n32_eq {R : Type} (k : Nat) (G : KT6 R) (σ : GS) (h : Heap) : KC k 101 c32 σ h (fun x σ h => G x (σ 1) (σ 2) (σ 4) (σ 6) (σ 7) (σ 9) h) = n32 k G (σ 1) (σ 2) (σ 4) (σ 6) (σ 7) (σ 9) (σ 65) h := by kernel_rfl
noncomputable def c33 : Code := cL c31
noncomputable def o33 : Array Oper := cO c33
@[simp] def g33_4 {R : Type} (k : Nat) (G : KT7 R) (v1 v2 v4 v6 v7 v9 v61 v64 : GV) (h : Heap) : Option R := (kpick v61 (.bool true) v64).bind fun v65 => G .nrm v1 v2 v4 v6 v7 v9 v65 h
theorem g33_4_eq {R : Type} (k : Nat) (G : KT7 R) (σ : GS) (h : Heap) : kgroups PP cfg NN HH 101 o33 [(none, [12])] σ h (fun σ h => G .nrm (σ 1) (σ 2) (σ 4) (σ 6) (σ 7) (σ 9) (σ 65) h) = g33_4 k G (σ 1) (σ 2) (σ 4) (σ 6) (σ 7) (σ 9) (σ 61) (σ 64) h := by kernel_rfl
@[simp] def g33_3 {R : Type} (k : Nat) (G : KT7 R) (v1 v2 v4 v6 v7 v9 v10 v61 : GV) (h : Heap) : Option R := bif tr false v61 then (keqB .neq v10 v7).bind fun v64 => g33_4 k G v1 v2 v4 v6 v7 v9 v61 v64 h else g33_4 k G v1 v2 v4 v6 v7 v9 v61 .un h
theorem g33_3_eq0 {R : Type} (k : Nat) (G : KT7 R) (σ : GS) (h : Heap) : kgroup1 PP cfg NN HH 101 o33 (some (8, false), [9, 10, 11]) σ h (fun σ h => g33_4 k G (σ 1) (σ 2) (σ 4) (σ 6) (σ 7) (σ 9) (σ 61) (σ 64) h) = g33_3 k G (σ 1) (σ 2) (σ 4) (σ 6) (σ 7) (σ 9) (σ 10) (σ 61) h := by kernel_rfl
theorem g33_3_eq {R : Type} (k : Nat) (G : KT7 R) (σ : GS) (h : Heap) : kgroups PP cfg NN HH 101 o33 [(some (8, false), [9, 10, 11]), (none, [12])] σ h (fun σ h => G .nrm (σ 1) (σ 2) (σ 4) (σ 6) (σ 7) (σ 9) (σ 65) h) = g33_3 k G (σ 1) (σ 2) (σ 4) (σ 6) (σ 7) (σ 9) (σ 10) (σ 61) h := (kgroups_cons (fun σ h => g33_4_eq k G σ h)).trans (g33_3_eq0 k G σ h)
@[simp] def g33_2 {R : Type} (k : Nat) (G : KT7 R) (v1 v2 v4 v6 v7 v9 v10 v55 v59 : GV) (h : Heap) : Option R := (kpick v55 (.bool true) v59).bind fun v60 => g33_3 k G v1 v2 v4 v6 v7 v9 v10 v60 h
theorem g33_2_eq0 {R : Type} (k : Nat) (G : KT7 R) (σ : GS) (h : Heap) : kgroup1 PP cfg NN HH 101 o33 (none, [7, 8]) σ h (fun σ h => g33_3 k G (σ 1) (σ 2) (σ 4) (σ 6) (σ 7) (σ 9) (σ 10) (σ 61) h) = g33_2 k G (σ 1) (σ 2) (σ 4) (σ 6) (σ 7) (σ 9) (σ 10) (σ 55) (σ 59) h := by kernel_rfl
theorem g33_2_eq {R : Type} (k : Nat) (G : KT7 R) (σ : GS) (h : Heap) : kgroups PP cfg NN HH 101 o33 [(none, [7, 8]), (some (8, false), [9, 10, 11]), (none, [12])] σ h (fun σ h => G .nrm (σ 1) (σ 2) (σ 4) (σ 6) (σ 7) (σ 9) (σ 65) h) = g33_2 k G (σ 1) (σ 2) (σ 4) (σ 6) (σ 7) (σ 9) (σ 10) (σ 55) (σ 59) h := (kgroups_cons (fun σ h => g33_3_eq k G σ h)).trans (g33_2_eq0 k G σ h)
@[simp] def g33_1 {R : Type} (k : Nat) (G : KT7 R) (v1 v2 v4 v6 v7 v9 v10 v55 : GV) (h : Heap) : Option R := bif tr false v55 then (kloadA 3 h v9).bind fun v56 => (kloadA 3 h v6).bind fun v57 => (kN NN fn.laws_eqChain [v56, v57] h).bind fun v58 => (kun .not v58).bind fun v59 => g33_2 k G v1 v2 v4 v6 v7 v9 v10 v55 v59 h else g33_2 k G v1 v2 v4 v6 v7 v9 v10 v55 .un h
theorem g33_1_eq0 {R : Type} (k : Nat) (G : KT7 R) (σ : GS) (h : Heap) : kgroup1 PP cfg NN HH 101 o33 (some (2, false), [3, 4, 5, 6]) σ h (fun σ h => g33_2 k G (σ 1) (σ 2) (σ 4) (σ 6) (σ 7) (σ 9) (σ 10) (σ 55) (σ 59) h) = g33_1 k G (σ 1) (σ 2) (σ 4) (σ 6) (σ 7) (σ 9) (σ 10) (σ 55) h := by kernel_rfl
theorem g33_1_eq {R : Type} (k : Nat) (G : KT7 R) (σ : GS) (h : Heap) : kgroups PP cfg NN HH 101 o33 [(some (2, false), [3, 4, 5, 6]), (none, [7, 8]), (some (8, false), [9, 10, 11]), (none, [12])] σ h (fun σ h => G .nrm (σ 1) (σ 2) (σ 4) (σ 6) (σ 7) (σ 9) (σ 65) h) = g33_1 k G (σ 1) (σ 2) (σ 4) (σ 6) (σ 7) (σ 9) (σ 10) (σ 55) h := (kgroups_cons (fun σ h => g33_2_eq k G σ h)).trans (g33_1_eq0 k G σ h)
@[simp] def g33_0 {R : Type} (k : Nat) (G : KT7 R) (v1 v2 v4 v6 v7 v9 v10 v11 : GV) (h : Heap) : Option R := (kbin .lss v11 (.int .i64 0)).bind fun v54 => g33_1 k G v1 v2 v4 v6 v7 v9 v10 v54 h
theorem g33_0_eq0 {R : Type} (k : Nat) (G : KT7 R) (σ : GS) (h : Heap) : kgroup1 PP cfg NN HH 101 o33 (none, [0, 1, 2]) σ h (fun σ h => g33_1 k G (σ 1) (σ 2) (σ 4) (σ 6) (σ 7) (σ 9) (σ 10) (σ 55) h) = g33_0 k G (σ 1) (σ 2) (σ 4) (σ 6) (σ 7) (σ 9) (σ 10) (σ 11) h := by kernel_rfl
theorem g33_0_eq {R : Type} (k : Nat) (G : KT7 R) (σ : GS) (h : Heap) : kgroups PP cfg NN HH 101 o33 [(none, [0, 1, 2]), (some (2, false), [3, 4, 5, 6]), (none, [7, 8]), (some (8, false), [9, 10, 11]), (none, [12])] σ h (fun σ h => G .nrm (σ 1) (σ 2) (σ 4) (σ 6) (σ 7) (σ 9) (σ 65) h) = g33_0 k G (σ 1) (σ 2) (σ 4) (σ 6) (σ 7) (σ 9) (σ 10) (σ 11) h := (kgroups_cons (fun σ h => g33_1_eq k G σ h)).trans (g33_0_eq0 k G σ h)
@[simp] def n33 {R : Type} (k : Nat) (G : KT7 R) (v1 v2 v4 v6 v7 v9 v10 v11 : GV) (h : Heap) : Option R := g33_0 k G v1 v2 v4 v6 v7 v9 v10 v11 h
theorem n33_eq {R : Type} (k : Nat) (G : KT7 R) (σ : GS) (h : Heap) : KC k 101 c33 σ h (fun x σ h => G x (σ 1) (σ 2) (σ 4) (σ 6) (σ 7) (σ 9) (σ 65) h) = n33 k G (σ 1) (σ 2) (σ 4) (σ 6) (σ 7) (σ 9) (σ 10) (σ 11) h := (kregion_eq (id := 14) (draw := false) (ops := o33) (gs := [(none, [0, 1, 2]), (some (2, false), [3, 4, 5, 6]), (none, [7, 8]), (some (8, false), [9, 10, 11]), (none, [12])]) (by kernel_rfl) (by kernel_rfl) (by kernel_rfl)).trans (g33_0_eq k G σ h)
@[simp] def n31 {R : Type} (k : Nat) (G : KT6 R) (v1 v2 v4 v6 v7 v9 v10 v11 : GV) (h : Heap) : Option R := n33 k (fun x v1 v2 v4 v6 v7 v9 v65 h => kx x (n32 k G v1 v2 v4 v6 v7 v9 v65 h) (G x v1 v2 v4 v6 v7 v9 h)) v1 v2 v4 v6 v7 v9 v10 v11 h
theorem n31_eq {R : Type} (k : Nat) (G : KT6 R) (σ : GS) (h : Heap) : KC k 101 c31 σ h (fun x σ h => G x (σ 1) (σ 2) (σ 4) (σ 6) (σ 7) (σ 9) h) = n31 k G (σ 1) (σ 2) (σ 4) (σ 6) (σ 7) (σ 9) (σ 10) (σ 11) h := (kseq (b := c32) rfl (fun σ h => n32_eq k G σ h)).trans (n33_eq k (fun x v1 v2 v4 v6 v7 v9 v65 h => kx x (n32 k G v1 v2 v4 v6 v7 v9 v65 h) (G x v1 v2 v4 v6 v7 v9 h)) σ h)
@[simp] def n11 {R : Type} (k : Nat) (G : KT1 R) (v1 v2 v4 v6 v7 v9 v10 v11 : GV) (h : Heap) : Option R := n31 k (fun x v1 v2 v4 v6 v7 v9 h => kx x (n12 k G v1 v2 v4 v6 v7 v9 h) (G x v4 h)) v1 v2 v4 v6 v7 v9 v10 v11 h
theorem n11_eq {R : Type} (k : Nat) (G : KT1 R) (σ : GS) (h : Heap) : KC k 101 c11 σ h (fun x σ h => G x (σ 4) h) = n11 k G (σ 1) (σ 2) (σ 4) (σ 6) (σ 7) (σ 9) (σ 10) (σ 11) h := (kseq (b := c12) rfl (fun σ h => n12_eq k G σ h)).trans (n31_eq k (fun x v1 v2 v4 v6 v7 v9 h => kx x (n12 k G v1 v2 v4 v6 v7 v9 h) (G x v4 h)) σ h)
noncomputable def c34 : Code := cL c10
@[simp] def n10 {R : Type} (k : Nat) (G : KT1 R) (v1 v2 v4 v6 v7 v8 v9 v10 v11 : GV) (h : Heap) : Option R := (kloadA 3 h v8).bind fun v50 => (HH fn.laws_markChain [v50, v11] h).bind fun r => kr r fun v52 h => n11 k G v1 v2 v4 v6 v7 v9 v10 v52 h
theorem n10_eq0 {R : Type} (k : Nat) (G : KT1 R) (σ : GS) (h : Heap) : KC k 101 c34 σ h (fun x σ h => kx x (n11 k G (σ 1) (σ 2) (σ 4) (σ 6) (σ 7) (σ 9) (σ 10) (σ 11) h) (G x (σ 4) h)) = n10 k G (σ 1) (σ 2) (σ 4) (σ 6) (σ 7) (σ 8) (σ 9) (σ 10) (σ 11) h := by kernel_rfl
theorem n10_eq {R : Type} (k : Nat) (G : KT1 R) (σ : GS) (h : Heap) : KC k 101 c10 σ h (fun x σ h => G x (σ 4) h) = n10 k G (σ 1) (σ 2) (σ 4) (σ 6) (σ 7) (σ 8) (σ 9) (σ 10) (σ 11) h := (kseq (b := c11) rfl (fun σ h => n11_eq k G σ h)).trans (n10_eq0 k G σ h)
noncomputable def c35 : Code := cL c9
@[simp] def n9 {R : Type} (k : Nat) (G : KT1 R) (v1 v2 v4 v6 v7 v8 v9 v10 : GV) (h : Heap) : Option R := n10 k G v1 v2 v4 v6 v7 v8 v9 v10 (.int .i64 1) h
theorem n9_eq0 {R : Type} (k : Nat) (G : KT1 R) (σ : GS) (h : Heap) : KC k 101 c35 σ h (fun x σ h => kx x (n10 k G (σ 1) (σ 2) (σ 4) (σ 6) (σ 7) (σ 8) (σ 9) (σ 10) (σ 11) h) (G x (σ 4) h)) = n9 k G (σ 1) (σ 2) (σ 4) (σ 6) (σ 7) (σ 8) (σ 9) (σ 10) h := by kernel_rfl
theorem n9_eq {R : Type} (k : Nat) (G : KT1 R) (σ : GS) (h : Heap) : KC k 101 c9 σ h (fun x σ h => G x (σ 4) h) = n9 k G (σ 1) (σ 2) (σ 4) (σ 6) (σ 7) (σ 8) (σ 9) (σ 10) h := (kseq (b := c10) rfl (fun σ h => n10_eq k G σ h)).trans (n9_eq0 k G σ h)
noncomputable def c36 : Code := cL c8
@[simp] def n8 {R : Type} (k : Nat) (G : KT1 R) (v1 v2 v4 v6 v7 v8 v9 v10 : GV) (h : Heap) : Option R := (kloadA 3 h v8).bind fun v45 => (kloadA 3 h v2).bind fun v46 => (kF false HH fn.laws_toChain [v46] h).bind fun r => kr r fun v47 h => (kN NN fn.laws_eqChain [v45, v47] h).bind fun v48 => (kun .not v48).bind fun v49 => kcond v49 (G .ret (.bool false) h) (n9 k G v1 v2 v4 v6 v7 v8 v9 v10 h)
theorem n8_eq0 {R : Type} (k : Nat) (G : KT1 R) (σ : GS) (h : Heap) : KC k 101 c36 σ h (fun x σ h => kx x (n9 k G (σ 1) (σ 2) (σ 4) (σ 6) (σ 7) (σ 8) (σ 9) (σ 10) h) (G x (σ 4) h)) = n8 k G (σ 1) (σ 2) (σ 4) (σ 6) (σ 7) (σ 8) (σ 9) (σ 10) h := by kernel_rfl
theorem n8_eq {R : Type} (k : Nat) (G : KT1 R) (σ : GS) (h : Heap) : KC k 101 c8 σ h (fun x σ h => G x (σ 4) h) = n8 k G (σ 1) (σ 2) (σ 4) (σ 6) (σ 7) (σ 8) (σ 9) (σ 10) h := (kseq (b := c9) rfl (fun σ h => n9_eq k G σ h)).trans (n8_eq0 k G σ h)
noncomputable def c37 : Code := cL c7
noncomputable def c38 : Code := cR c37
@[simp] def n38 {R : Type} (k : Nat) (G : KT8 R) (v1 v2 v4 v6 v7 v8 v9 v10 v44 : GV) (h : Heap) : Option R := kcond v44 (G .ret v1 v2 (.bool false) v6 v7 v8 v9 v10 h) (G .nrm v1 v2 v4 v6 v7 v8 v9 v10 h)
theorem n38_eq {R : Type} (k : Nat) (G : KT8 R) (σ : GS) (h : Heap) : KC k 101 c38 σ h (fun x σ h => G x (σ 1) (σ 2) (σ 4) (σ 6) (σ 7) (σ 8) (σ 9) (σ 10) h) = n38 k G (σ 1) (σ 2) (σ 4) (σ 6) (σ 7) (σ 8) (σ 9) (σ 10) (σ 44) h := by kernel_rfl
noncomputable def c39 : Code := cL c37
noncomputable def o39 : Array Oper := cO c39
@[simp] def g39_2 {R : Type} (k : Nat) (G : KT9 R) (v1 v2 v4 v6 v7 v8 v9 v10 v40 v43 : GV) (h : Heap) : Option R := (kpick v40 (.bool true) v43).bind fun v44 => G .nrm v1 v2 v4 v6 v7 v8 v9 v10 v44 h
theorem g39_2_eq {R : Type} (k : Nat) (G : KT9 R) (σ : GS) (h : Heap) : kgroups PP cfg NN HH 101 o39 [(none, [8])] σ h (fun σ h => G .nrm (σ 1) (σ 2) (σ 4) (σ 6) (σ 7) (σ 8) (σ 9) (σ 10) (σ 44) h) = g39_2 k G (σ 1) (σ 2) (σ 4) (σ 6) (σ 7) (σ 8) (σ 9) (σ 10) (σ 40) (σ 43) h := by kernel_rfl
@[simp] def g39_1 {R : Type} (k : Nat) (G : KT9 R) (v1 v2 v4 v6 v7 v8 v9 v10 v40 : GV) (h : Heap) : Option R := bif tr false v40 then (keqB .neq v10 v7).bind fun v43 => g39_2 k G v1 v2 v4 v6 v7 v8 v9 v10 v40 v43 h else g39_2 k G v1 v2 v4 v6 v7 v8 v9 v10 v40 .un h
theorem g39_1_eq0 {R : Type} (k : Nat) (G : KT9 R) (σ : GS) (h : Heap) : kgroup1 PP cfg NN HH 101 o39 (some (4, false), [5, 6, 7]) σ h (fun σ h => g39_2 k G (σ 1) (σ 2) (σ 4) (σ 6) (σ 7) (σ 8) (σ 9) (σ 10) (σ 40) (σ 43) h) = g39_1 k G (σ 1) (σ 2) (σ 4) (σ 6) (σ 7) (σ 8) (σ 9) (σ 10) (σ 40) h := by kernel_rfl
theorem g39_1_eq {R : Type} (k : Nat) (G : KT9 R) (σ : GS) (h : Heap) : kgroups PP cfg NN HH 101 o39 [(some (4, false), [5, 6, 7]), (none, [8])] σ h (fun σ h => G .nrm (σ 1) (σ 2) (σ 4) (σ 6) (σ 7) (σ 8) (σ 9) (σ 10) (σ 44) h) = g39_1 k G (σ 1) (σ 2) (σ 4) (σ 6) (σ 7) (σ 8) (σ 9) (σ 10) (σ 40) h := (kgroups_cons (fun σ h => g39_2_eq k G σ h)).trans (g39_1_eq0 k G σ h)
@[simp] def g39_0 {R : Type} (k : Nat) (G : KT9 R) (v1 v2 v4 v6 v7 v8 v9 v10 : GV) (h : Heap) : Option R := (kloadA 3 h v9).bind fun v36 => (kloadA 3 h v6).bind fun v37 => (kN NN fn.laws_eqChain [v36, v37] h).bind fun v38 => (kun .not v38).bind fun v39 => g39_1 k G v1 v2 v4 v6 v7 v8 v9 v10 v39 h
theorem g39_0_eq0 {R : Type} (k : Nat) (G : KT9 R) (σ : GS) (h : Heap) : kgroup1 PP cfg NN HH 101 o39 (none, [0, 1, 2, 3, 4]) σ h (fun σ h => g39_1 k G (σ 1) (σ 2) (σ 4) (σ 6) (σ 7) (σ 8) (σ 9) (σ 10) (σ 40) h) = g39_0 k G (σ 1) (σ 2) (σ 4) (σ 6) (σ 7) (σ 8) (σ 9) (σ 10) h := by kernel_rfl
theorem g39_0_eq {R : Type} (k : Nat) (G : KT9 R) (σ : GS) (h : Heap) : kgroups PP cfg NN HH 101 o39 [(none, [0, 1, 2, 3, 4]), (some (4, false), [5, 6, 7]), (none, [8])] σ h (fun σ h => G .nrm (σ 1) (σ 2) (σ 4) (σ 6) (σ 7) (σ 8) (σ 9) (σ 10) (σ 44) h) = g39_0 k G (σ 1) (σ 2) (σ 4) (σ 6) (σ 7) (σ 8) (σ 9) (σ 10) h := (kgroups_cons (fun σ h => g39_1_eq k G σ h)).trans (g39_0_eq0 k G σ h)
@[simp] def n39 {R : Type} (k : Nat) (G : KT9 R) (v1 v2 v4 v6 v7 v8 v9 v10 : GV) (h : Heap) : Option R := g39_0 k G v1 v2 v4 v6 v7 v8 v9 v10 h
theorem n39_eq {R : Type} (k : Nat) (G : KT9 R) (σ : GS) (h : Heap) : KC k 101 c39 σ h (fun x σ h => G x (σ 1) (σ 2) (σ 4) (σ 6) (σ 7) (σ 8) (σ 9) (σ 10) (σ 44) h) = n39 k G (σ 1) (σ 2) (σ 4) (σ 6) (σ 7) (σ 8) (σ 9) (σ 10) h := (kregion_eq (id := 8) (draw := false) (ops := o39) (gs := [(none, [0, 1, 2, 3, 4]), (some (4, false), [5, 6, 7]), (none, [8])]) (by kernel_rfl) (by kernel_rfl) (by kernel_rfl)).trans (g39_0_eq k G σ h)
@[simp] def n37 {R : Type} (k : Nat) (G : KT8 R) (v1 v2 v4 v6 v7 v8 v9 v10 : GV) (h : Heap) : Option R := n39 k (fun x v1 v2 v4 v6 v7 v8 v9 v10 v44 h => kx x (n38 k G v1 v2 v4 v6 v7 v8 v9 v10 v44 h) (G x v1 v2 v4 v6 v7 v8 v9 v10 h)) v1 v2 v4 v6 v7 v8 v9 v10 h
theorem n37_eq {R : Type} (k : Nat) (G : KT8 R) (σ : GS) (h : Heap) : KC k 101 c37 σ h (fun x σ h => G x (σ 1) (σ 2) (σ 4) (σ 6) (σ 7) (σ 8) (σ 9) (σ 10) h) = n37 k G (σ 1) (σ 2) (σ 4) (σ 6) (σ 7) (σ 8) (σ 9) (σ 10) h := (kseq (b := c38) rfl (fun σ h => n38_eq k G σ h)).trans (n39_eq k (fun x v1 v2 v4 v6 v7 v8 v9 v10 v44 h => kx x (n38 k G v1 v2 v4 v6 v7 v8 v9 v10 v44 h) (G x v1 v2 v4 v6 v7 v8 v9 v10 h)) σ h)
@[simp] def n7 {R : Type} (k : Nat) (G : KT1 R) (v1 v2 v4 v6 v7 v8 v9 v10 : GV) (h : Heap) : Option R := n37 k (fun x v1 v2 v4 v6 v7 v8 v9 v10 h => kx x (n8 k G v1 v2 v4 v6 v7 v8 v9 v10 h) (G x v4 h)) v1 v2 v4 v6 v7 v8 v9 v10 h
theorem n7_eq {R : Type} (k : Nat) (G : KT1 R) (σ : GS) (h : Heap) : KC k 101 c7 σ h (fun x σ h => G x (σ 4) h) = n7 k G (σ 1) (σ 2) (σ 4) (σ 6) (σ 7) (σ 8) (σ 9) (σ 10) h := (kseq (b := c8) rfl (fun σ h => n8_eq k G σ h)).trans (n37_eq k (fun x v1 v2 v4 v6 v7 v8 v9 v10 h => kx x (n8 k G v1 v2 v4 v6 v7 v8 v9 v10 h) (G x v4 h)) σ h)
noncomputable def c40 : Code := cL c6
@[simp] def n6 {R : Type} (k : Nat) (G : KT1 R) (v1 v2 v4 v6 v7 v8 : GV) (h : Heap) : Option R := (kloadA 3 h v8).bind fun v31 => (kF false HH fn.impl_Carry [v31, v1] h).bind fun r => kr r fun v33 h => (kxt 0 v33).bind fun v34 => (kxt 1 v33).bind fun v35 => kalloc [.nils, .nils, .nils] h fun v9 h => (kstore 3 h v9 v34).bind fun h => n7 k G v1 v2 v4 v6 v7 v8 v9 v35 h
theorem n6_eq0 {R : Type} (k : Nat) (G : KT1 R) (σ : GS) (h : Heap) : KC k 101 c40 σ h (fun x σ h => kx x (n7 k G (σ 1) (σ 2) (σ 4) (σ 6) (σ 7) (σ 8) (σ 9) (σ 10) h) (G x (σ 4) h)) = n6 k G (σ 1) (σ 2) (σ 4) (σ 6) (σ 7) (σ 8) h := by kernel_rfl
theorem n6_eq {R : Type} (k : Nat) (G : KT1 R) (σ : GS) (h : Heap) : KC k 101 c6 σ h (fun x σ h => G x (σ 4) h) = n6 k G (σ 1) (σ 2) (σ 4) (σ 6) (σ 7) (σ 8) h := (kseq (b := c7) rfl (fun σ h => n7_eq k G σ h)).trans (n6_eq0 k G σ h)
noncomputable def c41 : Code := cL c5
@[simp] def n5 {R : Type} (k : Nat) (G : KT1 R) (v1 v2 v4 v6 v7 : GV) (h : Heap) : Option R := (kloadA 3 h v2).bind fun v28 => (kF false HH fn.laws_toChain [v28] h).bind fun r => kr r fun v29 h => kalloc [.nils, .nils, .nils] h fun v8 h => (kstore 3 h v8 v29).bind fun h => n6 k G v1 v2 v4 v6 v7 v8 h
theorem n5_eq0 {R : Type} (k : Nat) (G : KT1 R) (σ : GS) (h : Heap) : KC k 101 c41 σ h (fun x σ h => kx x (n6 k G (σ 1) (σ 2) (σ 4) (σ 6) (σ 7) (σ 8) h) (G x (σ 4) h)) = n5 k G (σ 1) (σ 2) (σ 4) (σ 6) (σ 7) h := by kernel_rfl
theorem n5_eq {R : Type} (k : Nat) (G : KT1 R) (σ : GS) (h : Heap) : KC k 101 c5 σ h (fun x σ h => G x (σ 4) h) = n5 k G (σ 1) (σ 2) (σ 4) (σ 6) (σ 7) h := (kseq (b := c6) rfl (fun σ h => n6_eq k G σ h)).trans (n5_eq0 k G σ h)
noncomputable def c42 : Code := cL c4
@[simp] def n4 {R : Type} (k : Nat) (G : KT1 R) (v1 v2 v4 : GV) (h : Heap) : Option R := (kloadA 3 h v2).bind fun v22 => (kF false HH fn.laws_toChain [v22] h).bind fun r => kr r fun v23 h => (kN NN fn.spec_Carry [v23, v1] h).bind fun v25 => (kxt 0 v25).bind fun v26 => (kxt 1 v25).bind fun v27 => kalloc [.nils, .nils, .nils] h fun v6 h => (kstore 3 h v6 v26).bind fun h => n5 k G v1 v2 v4 v6 v27 h
theorem n4_eq0 {R : Type} (k : Nat) (G : KT1 R) (σ : GS) (h : Heap) : KC k 101 c42 σ h (fun x σ h => kx x (n5 k G (σ 1) (σ 2) (σ 4) (σ 6) (σ 7) h) (G x (σ 4) h)) = n4 k G (σ 1) (σ 2) (σ 4) h := by kernel_rfl
theorem n4_eq {R : Type} (k : Nat) (G : KT1 R) (σ : GS) (h : Heap) : KC k 101 c4 σ h (fun x σ h => G x (σ 4) h) = n4 k G (σ 1) (σ 2) (σ 4) h := (kseq (b := c5) rfl (fun σ h => n5_eq k G σ h)).trans (n4_eq0 k G σ h)
noncomputable def c43 : Code := cL c3
@[simp] def n3 {R : Type} (k : Nat) (G : KT1 R) (v1 v2 v4 v5 : GV) (h : Heap) : Option R := (kbin .lss v5 (.int .i64 0)).bind fun v20 => kcond v20 (G .ret (.bool true) h) (n4 k G v1 v2 v4 h)
theorem n3_eq0 {R : Type} (k : Nat) (G : KT1 R) (σ : GS) (h : Heap) : KC k 101 c43 σ h (fun x σ h => kx x (n4 k G (σ 1) (σ 2) (σ 4) h) (G x (σ 4) h)) = n3 k G (σ 1) (σ 2) (σ 4) (σ 5) h := by kernel_rfl
theorem n3_eq {R : Type} (k : Nat) (G : KT1 R) (σ : GS) (h : Heap) : KC k 101 c3 σ h (fun x σ h => G x (σ 4) h) = n3 k G (σ 1) (σ 2) (σ 4) (σ 5) h := (kseq (b := c4) rfl (fun σ h => n4_eq k G σ h)).trans (n3_eq0 k G σ h)
noncomputable def c44 : Code := cL c2
@[simp] def n2 {R : Type} (k : Nat) (G : KT1 R) (v1 v2 v4 v5 : GV) (h : Heap) : Option R := (kloadA 3 h v2).bind fun v16 => (kN NN fn.laws_szChain [v16, v5] h).bind fun v18 => n3 k G v1 v2 v4 v18 h
theorem n2_eq0 {R : Type} (k : Nat) (G : KT1 R) (σ : GS) (h : Heap) : KC k 101 c44 σ h (fun x σ h => kx x (n3 k G (σ 1) (σ 2) (σ 4) (σ 5) h) (G x (σ 4) h)) = n2 k G (σ 1) (σ 2) (σ 4) (σ 5) h := by kernel_rfl
theorem n2_eq {R : Type} (k : Nat) (G : KT1 R) (σ : GS) (h : Heap) : KC k 101 c2 σ h (fun x σ h => G x (σ 4) h) = n2 k G (σ 1) (σ 2) (σ 4) (σ 5) h := (kseq (b := c3) rfl (fun σ h => n3_eq k G σ h)).trans (n2_eq0 k G σ h)
noncomputable def c45 : Code := cL c1
@[simp] def n1 {R : Type} (k : Nat) (G : KT1 R) (v1 v2 v4 : GV) (h : Heap) : Option R := n2 k G v1 v2 v4 (.int .i64 1048576) h
theorem n1_eq0 {R : Type} (k : Nat) (G : KT1 R) (σ : GS) (h : Heap) : KC k 101 c45 σ h (fun x σ h => kx x (n2 k G (σ 1) (σ 2) (σ 4) (σ 5) h) (G x (σ 4) h)) = n1 k G (σ 1) (σ 2) (σ 4) h := by kernel_rfl
theorem n1_eq {R : Type} (k : Nat) (G : KT1 R) (σ : GS) (h : Heap) : KC k 101 c1 σ h (fun x σ h => G x (σ 4) h) = n1 k G (σ 1) (σ 2) (σ 4) h := (kseq (b := c2) rfl (fun σ h => n2_eq k G σ h)).trans (n1_eq0 k G σ h)
noncomputable def c46 : Code := cL c0
@[simp] def n0 {R : Type} (k : Nat) (G : KT1 R) (v0 v1 : GV) (h : Heap) : Option R := kbox v0 h fun v2 h => n1 k G v1 v2 (.bool false) h
theorem n0_eq0 {R : Type} (k : Nat) (G : KT1 R) (σ : GS) (h : Heap) : KC k 101 c46 σ h (fun x σ h => kx x (n1 k G (σ 1) (σ 2) (σ 4) h) (G x (σ 4) h)) = n0 k G (σ 0) (σ 1) h := by kernel_rfl
theorem n0_eq {R : Type} (k : Nat) (G : KT1 R) (σ : GS) (h : Heap) : KC k 101 c0 σ h (fun x σ h => G x (σ 4) h) = n0 k G (σ 0) (σ 1) h := (kseq (b := c1) rfl (fun σ h => n1_eq k G σ h)).trans (n0_eq0 k G σ h)
def run {R : Type} (k : Nat) (a0 : GV) (a1 : GV) (h : Heap) (fin : GV → Heap → Option R) : Option R := n0 k (fun x v4 h => kend x (fin v4 h)) a0 a1 h
theorem run_eq {R : Type} (k : Nat) (a0 : GV) (a1 : GV) (h : Heap) (fin : GV → Heap → Option R) : kfun PP cfg NN HH k fn.laws_FnExactCarry [a0, a1] h fin = run k a0 a1 h fin := (kfun_eq (nt := 101) (c := c0) (show PP.funcs[fn.laws_FnExactCarry]? = some Try.f7 by kernel_rfl) (by kernel_rfl) (by kernel_rfl) (fun x σ h => by cases x <;> kernel_rfl)).trans (n0_eq k (fun x v4 h => kend x (fin v4 h)) _ h)
theorem gives {k : Nat} {a0 : GV} {a1 : GV} {v : GV} (e : run k a0 a1 [] finN = some v) : NN fn.laws_FnExactCarry [a0, a1] = some v := nω_of (by kernel_rfl) ((run_eq k a0 a1 [] finN).trans e)
end S.laws_FnExactCarry
end
end Go.Proofs.Ytopmnigfklgnkaa.G
