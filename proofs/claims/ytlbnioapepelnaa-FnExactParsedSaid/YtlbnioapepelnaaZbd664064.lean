/- What these functions do, told for open values, out of the machine with continuations. Printed by a program of this session. The law FnExactParsed, for all data. From this machine to the statements: a law that answers true for all data answers true for all arguments. -/
import Derived.Test.YtlbnioapepelnaaZa5489422
import Derived.KernelRfl
import Derived.Test.YtlbnioapepelnaaZe85aca91
import Derived.Test.YtlbnioapepelnaaZeb0e6002
import Derived.Test.YtlbnioapepelnaaZ31d8faa3
import Derived.ChangeOld
import Derived.OpenShut
namespace Go.Proofs.Ytlbnioapepelnaa.G
open Go.RowKit
set_option linter.unusedVariables false
set_option maxRecDepth 100000
noncomputable section
variable {R : Type} (k : Nat)
/-! laws_FnExactParsed -/
namespace S.laws_FnExactParsed
noncomputable def c0 : Code := bodyOf Try.f10
noncomputable def c1 : Code := cR c0
noncomputable def c2 : Code := cR c1
noncomputable def c3 : Code := cR c2
noncomputable def c4 : Code := cR c3
noncomputable def c5 : Code := cR c4
noncomputable def c6 : Code := cR c5
noncomputable def c7 : Code := cR c6
noncomputable def c8 : Code := cR c7
noncomputable def c9 : Code := cR c8
noncomputable def c10 : Code := cR c9
noncomputable def c11 : Code := cR c10
noncomputable def c12 : Code := cR c11
noncomputable def c13 : Code := cR c12
noncomputable def c14 : Code := cR c13
noncomputable def c15 : Code := cR c14
noncomputable def c16 : Code := cR c15
noncomputable def c17 : Code := cR c16
noncomputable def c18 : Code := cR c17
noncomputable def c19 : Code := cR c18
noncomputable def c20 : Code := cR c19
noncomputable def c21 : Code := cR c20
noncomputable def c22 : Code := cR c21
noncomputable def c23 : Code := cR c22
noncomputable def c24 : Code := cR c23
noncomputable def c25 : Code := cR c24
noncomputable def c26 : Code := cR c25
noncomputable def c27 : Code := cR c26
@[simp] def n27 {R : Type} (k : Nat) (G : KT1 R) (v4 v10 v11 v13 : GV) (h : Heap) : Option R := (kloadA 4 h v10).bind fun v120 => (kN NN fn.laws_heldParser [v120, (.int .i64 1)] h).bind fun v122 => (kbin .lss v122 (.int .i64 0)).bind fun v124 => kcond v124 (G .ret (.bool false) h) ((kN NN fn.laws_heldActionS [v11, v122] h).bind fun v127 => (kbin .lss v127 (.int .i64 0)).bind fun v129 => kcond v129 (G .ret (.bool false) h) ((kbin .neq v127 v13).bind fun v132 => kcond v132 (G .ret (.bool false) h) (G .ret (.bool true) h)))
theorem n27_eq (G : KT1 R) (σ : GS) (h : Heap) : KC k 133 c27 σ h (fun x σ h => G x (σ 4) h) = n27 k G (σ 4) (σ 10) (σ 11) (σ 13) h := by kernel_rfl
noncomputable def c28 : Code := cL c26
noncomputable def c29 : Code := cR c28
@[simp] def n29 {R : Type} (k : Nat) (G : KT4 R) (v4 v10 v11 v13 v119 : GV) (h : Heap) : Option R := kcond v119 (G .ret (.bool false) v10 v11 v13 h) (G .nrm v4 v10 v11 v13 h)
theorem n29_eq (G : KT4 R) (σ : GS) (h : Heap) : KC k 133 c29 σ h (fun x σ h => G x (σ 4) (σ 10) (σ 11) (σ 13) h) = n29 k G (σ 4) (σ 10) (σ 11) (σ 13) (σ 119) h := by kernel_rfl
noncomputable def c30 : Code := cL c28
noncomputable def o30 : Array Oper := cO c30
@[simp] def g30_2 {R : Type} (k : Nat) (G : KT5 R) (v4 v10 v11 v13 v114 v118 : GV) (h : Heap) : Option R := (kpick v114 (.bool true) v118).bind fun v119 => G .nrm v4 v10 v11 v13 v119 h
theorem g30_2_eq (G : KT5 R) (σ : GS) (h : Heap) : kgroups PP cfg NN HH 133 o30 [(none, [9])] σ h (fun σ h => G .nrm (σ 4) (σ 10) (σ 11) (σ 13) (σ 119) h) = g30_2 k G (σ 4) (σ 10) (σ 11) (σ 13) (σ 114) (σ 118) h := by kernel_rfl
@[simp] def g30_1 (G : KT5 R) (v4 v7 v10 v11 v13 v16 v114 : GV) (h : Heap) : Option R := bif tr false v114 then (kN NN fn.laws_eqActionS [v16, v7] h).bind fun v117 => (kun .not v117).bind fun v118 => g30_2 k G v4 v10 v11 v13 v114 v118 h else g30_2 k G v4 v10 v11 v13 v114 .un h
theorem g30_1_eq (G : KT5 R) (σ : GS) (h : Heap) : kgroups PP cfg NN HH 133 o30 [(some (4, false), [5, 6, 7, 8]), (none, [9])] σ h (fun σ h => G .nrm (σ 4) (σ 10) (σ 11) (σ 13) (σ 119) h) = g30_1 k G (σ 4) (σ 7) (σ 10) (σ 11) (σ 13) (σ 16) (σ 114) h := (kgroups_cons (fun σ h => g30_2_eq k G σ h)).trans (by kernel_rfl)
@[simp] def g30_0 (G : KT5 R) (v4 v6 v7 v10 v11 v13 v15 v16 : GV) (h : Heap) : Option R := (kloadA 4 h v15).bind fun v110 => (kloadA 4 h v6).bind fun v111 => (kN NN fn.laws_eqParser [v110, v111] h).bind fun v112 => (kun .not v112).bind fun v113 => g30_1 k G v4 v7 v10 v11 v13 v16 v113 h
theorem g30_0_eq (G : KT5 R) (σ : GS) (h : Heap) : kgroups PP cfg NN HH 133 o30 [(none, [0, 1, 2, 3, 4]), (some (4, false), [5, 6, 7, 8]), (none, [9])] σ h (fun σ h => G .nrm (σ 4) (σ 10) (σ 11) (σ 13) (σ 119) h) = g30_0 k G (σ 4) (σ 6) (σ 7) (σ 10) (σ 11) (σ 13) (σ 15) (σ 16) h := (kgroups_cons (fun σ h => g30_1_eq k G σ h)).trans (by kernel_rfl)
@[simp] def n30 (G : KT5 R) (v4 v6 v7 v10 v11 v13 v15 v16 : GV) (h : Heap) : Option R := g30_0 k G v4 v6 v7 v10 v11 v13 v15 v16 h
theorem n30_eq (G : KT5 R) (σ : GS) (h : Heap) : KC k 133 c30 σ h (fun x σ h => G x (σ 4) (σ 10) (σ 11) (σ 13) (σ 119) h) = n30 k G (σ 4) (σ 6) (σ 7) (σ 10) (σ 11) (σ 13) (σ 15) (σ 16) h := (kregion_eq (id := 35) (draw := false) (ops := o30) (gs := [(none, [0, 1, 2, 3, 4]), (some (4, false), [5, 6, 7, 8]), (none, [9])]) (by kernel_rfl) (by kernel_rfl) (by kernel_rfl)).trans (g30_0_eq k G σ h)
@[simp] def n28 (G : KT4 R) (v4 v6 v7 v10 v11 v13 v15 v16 : GV) (h : Heap) : Option R := n30 k (fun x v4 v10 v11 v13 v119 h => kx x (n29 k G v4 v10 v11 v13 v119 h) (G x v4 v10 v11 v13 h)) v4 v6 v7 v10 v11 v13 v15 v16 h
theorem n28_eq (G : KT4 R) (σ : GS) (h : Heap) : KC k 133 c28 σ h (fun x σ h => G x (σ 4) (σ 10) (σ 11) (σ 13) h) = n28 k G (σ 4) (σ 6) (σ 7) (σ 10) (σ 11) (σ 13) (σ 15) (σ 16) h := (kseq (b := c29) rfl (fun σ h => n29_eq k G σ h)).trans (n30_eq k (fun x v4 v10 v11 v13 v119 h => kx x (n29 k G v4 v10 v11 v13 v119 h) (G x v4 v10 v11 v13 h)) σ h)
@[simp] def n26 (G : KT1 R) (v4 v6 v7 v10 v11 v13 v15 v16 : GV) (h : Heap) : Option R := n28 k (fun x v4 v10 v11 v13 h => kx x (n27 k G v4 v10 v11 v13 h) (G x v4 h)) v4 v6 v7 v10 v11 v13 v15 v16 h
theorem n26_eq (G : KT1 R) (σ : GS) (h : Heap) : KC k 133 c26 σ h (fun x σ h => G x (σ 4) h) = n26 k G (σ 4) (σ 6) (σ 7) (σ 10) (σ 11) (σ 13) (σ 15) (σ 16) h := (kseq (b := c27) rfl (fun σ h => n27_eq k G σ h)).trans (n28_eq k (fun x v4 v10 v11 v13 h => kx x (n27 k G v4 v10 v11 v13 h) (G x v4 h)) σ h)
noncomputable def c31 : Code := cL c25
@[simp] def n25 (G : KT1 R) (v1 v2 v4 v6 v7 v10 v11 v13 : GV) (h : Heap) : Option R := (kloadA 4 h v2).bind fun v103 => (kF false HH fn.laws_toParser [v103] h).bind fun r => kr r fun v104 h => (kF false HH fn.laws_toInt64S [v1] h).bind fun r => kr r fun v106 h => (kF false HH fn.impl_Parsed [v104, v106] h).bind fun r => kr r fun v107 h => (kxt 0 v107).bind fun v108 => (kxt 1 v107).bind fun v109 => kalloc [(.int .i64 0), .nils, (.int .i64 0), .nils] h fun v15 h => (kstore 4 h v15 v108).bind fun h => n26 k G v4 v6 v7 v10 v11 v13 v15 v109 h
theorem n25_eq (G : KT1 R) (σ : GS) (h : Heap) : KC k 133 c25 σ h (fun x σ h => G x (σ 4) h) = n25 k G (σ 1) (σ 2) (σ 4) (σ 6) (σ 7) (σ 10) (σ 11) (σ 13) h := (kseq (a := c31) (b := c26) rfl (fun σ h => n26_eq k G σ h)).trans (by kernel_rfl)
noncomputable def c32 : Code := cL c24
@[simp] def n24 (G : KT1 R) (v1 v2 v4 v6 v7 v10 v11 v13 v14 : GV) (h : Heap) : Option R := (kbin .neq v14 v13).bind fun v101 => kcond v101 (G .ret (.bool false) h) (n25 k G v1 v2 v4 v6 v7 v10 v11 v13 h)
theorem n24_eq (G : KT1 R) (σ : GS) (h : Heap) : KC k 133 c24 σ h (fun x σ h => G x (σ 4) h) = n24 k G (σ 1) (σ 2) (σ 4) (σ 6) (σ 7) (σ 10) (σ 11) (σ 13) (σ 14) h := (kseq (a := c32) (b := c25) rfl (fun σ h => n25_eq k G σ h)).trans (by kernel_rfl)
noncomputable def c33 : Code := cL c23
@[simp] def n23 (G : KT1 R) (v1 v2 v4 v6 v7 v10 v11 v13 v14 : GV) (h : Heap) : Option R := (kbin .lss v14 (.int .i64 0)).bind fun v98 => kcond v98 (G .ret (.bool false) h) (n24 k G v1 v2 v4 v6 v7 v10 v11 v13 v14 h)
theorem n23_eq (G : KT1 R) (σ : GS) (h : Heap) : KC k 133 c23 σ h (fun x σ h => G x (σ 4) h) = n23 k G (σ 1) (σ 2) (σ 4) (σ 6) (σ 7) (σ 10) (σ 11) (σ 13) (σ 14) h := (kseq (a := c33) (b := c24) rfl (fun σ h => n24_eq k G σ h)).trans (by kernel_rfl)
noncomputable def c34 : Code := cL c22
@[simp] def n22 (G : KT1 R) (v1 v2 v4 v6 v7 v10 v11 v13 v14 : GV) (h : Heap) : Option R := (kN NN fn.laws_heldActionS [v11, v14] h).bind fun v96 => n23 k G v1 v2 v4 v6 v7 v10 v11 v13 v96 h
theorem n22_eq (G : KT1 R) (σ : GS) (h : Heap) : KC k 133 c22 σ h (fun x σ h => G x (σ 4) h) = n22 k G (σ 1) (σ 2) (σ 4) (σ 6) (σ 7) (σ 10) (σ 11) (σ 13) (σ 14) h := (kseq (a := c34) (b := c23) rfl (fun σ h => n23_eq k G σ h)).trans (by kernel_rfl)
noncomputable def c35 : Code := cL c21
@[simp] def n21 (G : KT1 R) (v1 v2 v4 v6 v7 v10 v11 v13 v14 : GV) (h : Heap) : Option R := (kbin .lss v14 (.int .i64 0)).bind fun v93 => kcond v93 (G .ret (.bool false) h) (n22 k G v1 v2 v4 v6 v7 v10 v11 v13 v14 h)
theorem n21_eq (G : KT1 R) (σ : GS) (h : Heap) : KC k 133 c21 σ h (fun x σ h => G x (σ 4) h) = n21 k G (σ 1) (σ 2) (σ 4) (σ 6) (σ 7) (σ 10) (σ 11) (σ 13) (σ 14) h := (kseq (a := c35) (b := c22) rfl (fun σ h => n22_eq k G σ h)).trans (by kernel_rfl)
noncomputable def c36 : Code := cL c20
@[simp] def n20 (G : KT1 R) (v1 v2 v4 v6 v7 v10 v11 v13 v14 : GV) (h : Heap) : Option R := (kloadA 4 h v10).bind fun v89 => (kN NN fn.laws_heldParser [v89, v14] h).bind fun v91 => n21 k G v1 v2 v4 v6 v7 v10 v11 v13 v91 h
theorem n20_eq (G : KT1 R) (σ : GS) (h : Heap) : KC k 133 c20 σ h (fun x σ h => G x (σ 4) h) = n20 k G (σ 1) (σ 2) (σ 4) (σ 6) (σ 7) (σ 10) (σ 11) (σ 13) (σ 14) h := (kseq (a := c36) (b := c21) rfl (fun σ h => n21_eq k G σ h)).trans (by kernel_rfl)
noncomputable def c37 : Code := cL c19
@[simp] def n19 (G : KT1 R) (v1 v2 v4 v6 v7 v10 v11 v13 : GV) (h : Heap) : Option R := n20 k G v1 v2 v4 v6 v7 v10 v11 v13 (.int .i64 1) h
theorem n19_eq (G : KT1 R) (σ : GS) (h : Heap) : KC k 133 c19 σ h (fun x σ h => G x (σ 4) h) = n19 k G (σ 1) (σ 2) (σ 4) (σ 6) (σ 7) (σ 10) (σ 11) (σ 13) h := (kseq (a := c37) (b := c20) rfl (fun σ h => n20_eq k G σ h)).trans (by kernel_rfl)
noncomputable def c38 : Code := cL c18
@[simp] def n18 (G : KT1 R) (v1 v2 v4 v6 v7 v10 v11 v13 : GV) (h : Heap) : Option R := (HH fn.laws_markActionS [v11, v13] h).bind fun r => kr r fun v88 h => n19 k G v1 v2 v4 v6 v7 v10 v11 v88 h
theorem n18_eq (G : KT1 R) (σ : GS) (h : Heap) : KC k 133 c18 σ h (fun x σ h => G x (σ 4) h) = n18 k G (σ 1) (σ 2) (σ 4) (σ 6) (σ 7) (σ 10) (σ 11) (σ 13) h := (kseq (a := c38) (b := c19) rfl (fun σ h => n19_eq k G σ h)).trans (by kernel_rfl)
noncomputable def c39 : Code := cL c17
@[simp] def n17 (G : KT1 R) (v1 v2 v4 v6 v7 v10 v11 v13 : GV) (h : Heap) : Option R := (kloadA 4 h v10).bind fun v83 => (HH fn.laws_markParser [v83, v13] h).bind fun r => kr r fun v85 h => n18 k G v1 v2 v4 v6 v7 v10 v11 v85 h
theorem n17_eq (G : KT1 R) (σ : GS) (h : Heap) : KC k 133 c17 σ h (fun x σ h => G x (σ 4) h) = n17 k G (σ 1) (σ 2) (σ 4) (σ 6) (σ 7) (σ 10) (σ 11) (σ 13) h := (kseq (a := c39) (b := c18) rfl (fun σ h => n18_eq k G σ h)).trans (by kernel_rfl)
noncomputable def c40 : Code := cL c16
@[simp] def n16 (G : KT1 R) (v1 v2 v4 v6 v7 v10 v11 : GV) (h : Heap) : Option R := n17 k G v1 v2 v4 v6 v7 v10 v11 (.int .i64 1) h
theorem n16_eq (G : KT1 R) (σ : GS) (h : Heap) : KC k 133 c16 σ h (fun x σ h => G x (σ 4) h) = n16 k G (σ 1) (σ 2) (σ 4) (σ 6) (σ 7) (σ 10) (σ 11) h := (kseq (a := c40) (b := c17) rfl (fun σ h => n17_eq k G σ h)).trans (by kernel_rfl)
noncomputable def c41 : Code := cL c15
noncomputable def c42 : Code := cR c41
@[simp] def n42 {R : Type} (k : Nat) (G : KT7 R) (v1 v2 v4 v6 v7 v10 v11 v82 : GV) (h : Heap) : Option R := kcond v82 (G .ret v1 v2 (.bool false) v6 v7 v10 v11 h) (G .nrm v1 v2 v4 v6 v7 v10 v11 h)
theorem n42_eq (G : KT7 R) (σ : GS) (h : Heap) : KC k 133 c42 σ h (fun x σ h => G x (σ 1) (σ 2) (σ 4) (σ 6) (σ 7) (σ 10) (σ 11) h) = n42 k G (σ 1) (σ 2) (σ 4) (σ 6) (σ 7) (σ 10) (σ 11) (σ 82) h := by kernel_rfl
noncomputable def c43 : Code := cL c41
noncomputable def o43 : Array Oper := cO c43
@[simp] def g43_4 {R : Type} (k : Nat) (G : KT8 R) (v1 v2 v4 v6 v7 v10 v11 v77 v81 : GV) (h : Heap) : Option R := (kpick v77 (.bool true) v81).bind fun v82 => G .nrm v1 v2 v4 v6 v7 v10 v11 v82 h
theorem g43_4_eq (G : KT8 R) (σ : GS) (h : Heap) : kgroups PP cfg NN HH 133 o43 [(none, [13])] σ h (fun σ h => G .nrm (σ 1) (σ 2) (σ 4) (σ 6) (σ 7) (σ 10) (σ 11) (σ 82) h) = g43_4 k G (σ 1) (σ 2) (σ 4) (σ 6) (σ 7) (σ 10) (σ 11) (σ 77) (σ 81) h := by kernel_rfl
@[simp] def g43_3 (G : KT8 R) (v1 v2 v4 v6 v7 v10 v11 v77 : GV) (h : Heap) : Option R := bif tr false v77 then (kN NN fn.laws_eqActionS [v11, v7] h).bind fun v80 => (kun .not v80).bind fun v81 => g43_4 k G v1 v2 v4 v6 v7 v10 v11 v77 v81 h else g43_4 k G v1 v2 v4 v6 v7 v10 v11 v77 .un h
theorem g43_3_eq (G : KT8 R) (σ : GS) (h : Heap) : kgroups PP cfg NN HH 133 o43 [(some (8, false), [9, 10, 11, 12]), (none, [13])] σ h (fun σ h => G .nrm (σ 1) (σ 2) (σ 4) (σ 6) (σ 7) (σ 10) (σ 11) (σ 82) h) = g43_3 k G (σ 1) (σ 2) (σ 4) (σ 6) (σ 7) (σ 10) (σ 11) (σ 77) h := (kgroups_cons (fun σ h => g43_4_eq k G σ h)).trans (by kernel_rfl)
@[simp] def g43_2 (G : KT8 R) (v1 v2 v4 v6 v7 v10 v11 v71 v75 : GV) (h : Heap) : Option R := (kpick v71 (.bool true) v75).bind fun v76 => g43_3 k G v1 v2 v4 v6 v7 v10 v11 v76 h
theorem g43_2_eq (G : KT8 R) (σ : GS) (h : Heap) : kgroups PP cfg NN HH 133 o43 [(none, [7, 8]), (some (8, false), [9, 10, 11, 12]), (none, [13])] σ h (fun σ h => G .nrm (σ 1) (σ 2) (σ 4) (σ 6) (σ 7) (σ 10) (σ 11) (σ 82) h) = g43_2 k G (σ 1) (σ 2) (σ 4) (σ 6) (σ 7) (σ 10) (σ 11) (σ 71) (σ 75) h := (kgroups_cons (fun σ h => g43_3_eq k G σ h)).trans (by kernel_rfl)
@[simp] def g43_1 (G : KT8 R) (v1 v2 v4 v6 v7 v10 v11 v71 : GV) (h : Heap) : Option R := bif tr false v71 then (kloadA 4 h v10).bind fun v72 => (kloadA 4 h v6).bind fun v73 => (kN NN fn.laws_eqParser [v72, v73] h).bind fun v74 => (kun .not v74).bind fun v75 => g43_2 k G v1 v2 v4 v6 v7 v10 v11 v71 v75 h else g43_2 k G v1 v2 v4 v6 v7 v10 v11 v71 .un h
theorem g43_1_eq (G : KT8 R) (σ : GS) (h : Heap) : kgroups PP cfg NN HH 133 o43 [(some (2, false), [3, 4, 5, 6]), (none, [7, 8]), (some (8, false), [9, 10, 11, 12]), (none, [13])] σ h (fun σ h => G .nrm (σ 1) (σ 2) (σ 4) (σ 6) (σ 7) (σ 10) (σ 11) (σ 82) h) = g43_1 k G (σ 1) (σ 2) (σ 4) (σ 6) (σ 7) (σ 10) (σ 11) (σ 71) h := (kgroups_cons (fun σ h => g43_2_eq k G σ h)).trans (by kernel_rfl)
@[simp] def g43_0 (G : KT8 R) (v1 v2 v4 v6 v7 v10 v11 v12 : GV) (h : Heap) : Option R := (kbin .lss v12 (.int .i64 0)).bind fun v70 => g43_1 k G v1 v2 v4 v6 v7 v10 v11 v70 h
theorem g43_0_eq (G : KT8 R) (σ : GS) (h : Heap) : kgroups PP cfg NN HH 133 o43 [(none, [0, 1, 2]), (some (2, false), [3, 4, 5, 6]), (none, [7, 8]), (some (8, false), [9, 10, 11, 12]), (none, [13])] σ h (fun σ h => G .nrm (σ 1) (σ 2) (σ 4) (σ 6) (σ 7) (σ 10) (σ 11) (σ 82) h) = g43_0 k G (σ 1) (σ 2) (σ 4) (σ 6) (σ 7) (σ 10) (σ 11) (σ 12) h := (kgroups_cons (fun σ h => g43_1_eq k G σ h)).trans (by kernel_rfl)
@[simp] def n43 (G : KT8 R) (v1 v2 v4 v6 v7 v10 v11 v12 : GV) (h : Heap) : Option R := g43_0 k G v1 v2 v4 v6 v7 v10 v11 v12 h
theorem n43_eq (G : KT8 R) (σ : GS) (h : Heap) : KC k 133 c43 σ h (fun x σ h => G x (σ 1) (σ 2) (σ 4) (σ 6) (σ 7) (σ 10) (σ 11) (σ 82) h) = n43 k G (σ 1) (σ 2) (σ 4) (σ 6) (σ 7) (σ 10) (σ 11) (σ 12) h := (kregion_eq (id := 20) (draw := false) (ops := o43) (gs := [(none, [0, 1, 2]), (some (2, false), [3, 4, 5, 6]), (none, [7, 8]), (some (8, false), [9, 10, 11, 12]), (none, [13])]) (by kernel_rfl) (by kernel_rfl) (by kernel_rfl)).trans (g43_0_eq k G σ h)
@[simp] def n41 (G : KT7 R) (v1 v2 v4 v6 v7 v10 v11 v12 : GV) (h : Heap) : Option R := n43 k (fun x v1 v2 v4 v6 v7 v10 v11 v82 h => kx x (n42 k G v1 v2 v4 v6 v7 v10 v11 v82 h) (G x v1 v2 v4 v6 v7 v10 v11 h)) v1 v2 v4 v6 v7 v10 v11 v12 h
theorem n41_eq (G : KT7 R) (σ : GS) (h : Heap) : KC k 133 c41 σ h (fun x σ h => G x (σ 1) (σ 2) (σ 4) (σ 6) (σ 7) (σ 10) (σ 11) h) = n41 k G (σ 1) (σ 2) (σ 4) (σ 6) (σ 7) (σ 10) (σ 11) (σ 12) h := (kseq (b := c42) rfl (fun σ h => n42_eq k G σ h)).trans (n43_eq k (fun x v1 v2 v4 v6 v7 v10 v11 v82 h => kx x (n42 k G v1 v2 v4 v6 v7 v10 v11 v82 h) (G x v1 v2 v4 v6 v7 v10 v11 h)) σ h)
@[simp] def n15 (G : KT1 R) (v1 v2 v4 v6 v7 v10 v11 v12 : GV) (h : Heap) : Option R := n41 k (fun x v1 v2 v4 v6 v7 v10 v11 h => kx x (n16 k G v1 v2 v4 v6 v7 v10 v11 h) (G x v4 h)) v1 v2 v4 v6 v7 v10 v11 v12 h
theorem n15_eq (G : KT1 R) (σ : GS) (h : Heap) : KC k 133 c15 σ h (fun x σ h => G x (σ 4) h) = n15 k G (σ 1) (σ 2) (σ 4) (σ 6) (σ 7) (σ 10) (σ 11) (σ 12) h := (kseq (b := c16) rfl (fun σ h => n16_eq k G σ h)).trans (n41_eq k (fun x v1 v2 v4 v6 v7 v10 v11 h => kx x (n16 k G v1 v2 v4 v6 v7 v10 v11 h) (G x v4 h)) σ h)
noncomputable def c44 : Code := cL c14
@[simp] def n14 (G : KT1 R) (v1 v2 v4 v6 v7 v9 v10 v11 v12 : GV) (h : Heap) : Option R := (HH fn.laws_markInt64S [v9, v12] h).bind fun r => kr r fun v68 h => n15 k G v1 v2 v4 v6 v7 v10 v11 v68 h
theorem n14_eq (G : KT1 R) (σ : GS) (h : Heap) : KC k 133 c14 σ h (fun x σ h => G x (σ 4) h) = n14 k G (σ 1) (σ 2) (σ 4) (σ 6) (σ 7) (σ 9) (σ 10) (σ 11) (σ 12) h := (kseq (a := c44) (b := c15) rfl (fun σ h => n15_eq k G σ h)).trans (by kernel_rfl)
noncomputable def c45 : Code := cL c13
@[simp] def n13 (G : KT1 R) (v1 v2 v4 v6 v7 v8 v9 v10 v11 v12 : GV) (h : Heap) : Option R := (kloadA 4 h v8).bind fun v63 => (HH fn.laws_markParser [v63, v12] h).bind fun r => kr r fun v65 h => n14 k G v1 v2 v4 v6 v7 v9 v10 v11 v65 h
theorem n13_eq (G : KT1 R) (σ : GS) (h : Heap) : KC k 133 c13 σ h (fun x σ h => G x (σ 4) h) = n13 k G (σ 1) (σ 2) (σ 4) (σ 6) (σ 7) (σ 8) (σ 9) (σ 10) (σ 11) (σ 12) h := (kseq (a := c45) (b := c14) rfl (fun σ h => n14_eq k G σ h)).trans (by kernel_rfl)
noncomputable def c46 : Code := cL c12
@[simp] def n12 (G : KT1 R) (v1 v2 v4 v6 v7 v8 v9 v10 v11 : GV) (h : Heap) : Option R := n13 k G v1 v2 v4 v6 v7 v8 v9 v10 v11 (.int .i64 1) h
theorem n12_eq (G : KT1 R) (σ : GS) (h : Heap) : KC k 133 c12 σ h (fun x σ h => G x (σ 4) h) = n12 k G (σ 1) (σ 2) (σ 4) (σ 6) (σ 7) (σ 8) (σ 9) (σ 10) (σ 11) h := (kseq (a := c46) (b := c13) rfl (fun σ h => n13_eq k G σ h)).trans (by kernel_rfl)
noncomputable def c47 : Code := cL c11
@[simp] def n11 (G : KT1 R) (v1 v2 v4 v6 v7 v8 v9 v10 v11 : GV) (h : Heap) : Option R := (kF false HH fn.laws_toInt64S [v1] h).bind fun r => kr r fun v60 h => (kN NN fn.laws_eqInt64S [v9, v60] h).bind fun v61 => (kun .not v61).bind fun v62 => kcond v62 (G .ret (.bool false) h) (n12 k G v1 v2 v4 v6 v7 v8 v9 v10 v11 h)
theorem n11_eq (G : KT1 R) (σ : GS) (h : Heap) : KC k 133 c11 σ h (fun x σ h => G x (σ 4) h) = n11 k G (σ 1) (σ 2) (σ 4) (σ 6) (σ 7) (σ 8) (σ 9) (σ 10) (σ 11) h := (kseq (a := c47) (b := c12) rfl (fun σ h => n12_eq k G σ h)).trans (by kernel_rfl)
noncomputable def c48 : Code := cL c10
@[simp] def n10 (G : KT1 R) (v1 v2 v4 v6 v7 v8 v9 v10 v11 : GV) (h : Heap) : Option R := (kloadA 4 h v8).bind fun v53 => (kloadA 4 h v2).bind fun v54 => (kF false HH fn.laws_toParser [v54] h).bind fun r => kr r fun v55 h => (kN NN fn.laws_eqParser [v53, v55] h).bind fun v56 => (kun .not v56).bind fun v57 => kcond v57 (G .ret (.bool false) h) (n11 k G v1 v2 v4 v6 v7 v8 v9 v10 v11 h)
theorem n10_eq (G : KT1 R) (σ : GS) (h : Heap) : KC k 133 c10 σ h (fun x σ h => G x (σ 4) h) = n10 k G (σ 1) (σ 2) (σ 4) (σ 6) (σ 7) (σ 8) (σ 9) (σ 10) (σ 11) h := (kseq (a := c48) (b := c11) rfl (fun σ h => n11_eq k G σ h)).trans (by kernel_rfl)
noncomputable def c49 : Code := cL c9
noncomputable def c50 : Code := cR c49
@[simp] def n50 {R : Type} (k : Nat) (G : KT9 R) (v1 v2 v4 v6 v7 v8 v9 v10 v11 v52 : GV) (h : Heap) : Option R := kcond v52 (G .ret v1 v2 (.bool false) v6 v7 v8 v9 v10 v11 h) (G .nrm v1 v2 v4 v6 v7 v8 v9 v10 v11 h)
theorem n50_eq (G : KT9 R) (σ : GS) (h : Heap) : KC k 133 c50 σ h (fun x σ h => G x (σ 1) (σ 2) (σ 4) (σ 6) (σ 7) (σ 8) (σ 9) (σ 10) (σ 11) h) = n50 k G (σ 1) (σ 2) (σ 4) (σ 6) (σ 7) (σ 8) (σ 9) (σ 10) (σ 11) (σ 52) h := by kernel_rfl
noncomputable def c51 : Code := cL c49
noncomputable def o51 : Array Oper := cO c51
@[simp] def g51_2 {R : Type} (k : Nat) (G : KT10 R) (v1 v2 v4 v6 v7 v8 v9 v10 v11 v47 v51 : GV) (h : Heap) : Option R := (kpick v47 (.bool true) v51).bind fun v52 => G .nrm v1 v2 v4 v6 v7 v8 v9 v10 v11 v52 h
theorem g51_2_eq (G : KT10 R) (σ : GS) (h : Heap) : kgroups PP cfg NN HH 133 o51 [(none, [9])] σ h (fun σ h => G .nrm (σ 1) (σ 2) (σ 4) (σ 6) (σ 7) (σ 8) (σ 9) (σ 10) (σ 11) (σ 52) h) = g51_2 k G (σ 1) (σ 2) (σ 4) (σ 6) (σ 7) (σ 8) (σ 9) (σ 10) (σ 11) (σ 47) (σ 51) h := by kernel_rfl
@[simp] def g51_1 (G : KT10 R) (v1 v2 v4 v6 v7 v8 v9 v10 v11 v47 : GV) (h : Heap) : Option R := bif tr false v47 then (kN NN fn.laws_eqActionS [v11, v7] h).bind fun v50 => (kun .not v50).bind fun v51 => g51_2 k G v1 v2 v4 v6 v7 v8 v9 v10 v11 v47 v51 h else g51_2 k G v1 v2 v4 v6 v7 v8 v9 v10 v11 v47 .un h
theorem g51_1_eq (G : KT10 R) (σ : GS) (h : Heap) : kgroups PP cfg NN HH 133 o51 [(some (4, false), [5, 6, 7, 8]), (none, [9])] σ h (fun σ h => G .nrm (σ 1) (σ 2) (σ 4) (σ 6) (σ 7) (σ 8) (σ 9) (σ 10) (σ 11) (σ 52) h) = g51_1 k G (σ 1) (σ 2) (σ 4) (σ 6) (σ 7) (σ 8) (σ 9) (σ 10) (σ 11) (σ 47) h := (kgroups_cons (fun σ h => g51_2_eq k G σ h)).trans (by kernel_rfl)
@[simp] def g51_0 (G : KT10 R) (v1 v2 v4 v6 v7 v8 v9 v10 v11 : GV) (h : Heap) : Option R := (kloadA 4 h v10).bind fun v43 => (kloadA 4 h v6).bind fun v44 => (kN NN fn.laws_eqParser [v43, v44] h).bind fun v45 => (kun .not v45).bind fun v46 => g51_1 k G v1 v2 v4 v6 v7 v8 v9 v10 v11 v46 h
theorem g51_0_eq (G : KT10 R) (σ : GS) (h : Heap) : kgroups PP cfg NN HH 133 o51 [(none, [0, 1, 2, 3, 4]), (some (4, false), [5, 6, 7, 8]), (none, [9])] σ h (fun σ h => G .nrm (σ 1) (σ 2) (σ 4) (σ 6) (σ 7) (σ 8) (σ 9) (σ 10) (σ 11) (σ 52) h) = g51_0 k G (σ 1) (σ 2) (σ 4) (σ 6) (σ 7) (σ 8) (σ 9) (σ 10) (σ 11) h := (kgroups_cons (fun σ h => g51_1_eq k G σ h)).trans (by kernel_rfl)
@[simp] def n51 (G : KT10 R) (v1 v2 v4 v6 v7 v8 v9 v10 v11 : GV) (h : Heap) : Option R := g51_0 k G v1 v2 v4 v6 v7 v8 v9 v10 v11 h
theorem n51_eq (G : KT10 R) (σ : GS) (h : Heap) : KC k 133 c51 σ h (fun x σ h => G x (σ 1) (σ 2) (σ 4) (σ 6) (σ 7) (σ 8) (σ 9) (σ 10) (σ 11) (σ 52) h) = n51 k G (σ 1) (σ 2) (σ 4) (σ 6) (σ 7) (σ 8) (σ 9) (σ 10) (σ 11) h := (kregion_eq (id := 11) (draw := false) (ops := o51) (gs := [(none, [0, 1, 2, 3, 4]), (some (4, false), [5, 6, 7, 8]), (none, [9])]) (by kernel_rfl) (by kernel_rfl) (by kernel_rfl)).trans (g51_0_eq k G σ h)
@[simp] def n49 (G : KT9 R) (v1 v2 v4 v6 v7 v8 v9 v10 v11 : GV) (h : Heap) : Option R := n51 k (fun x v1 v2 v4 v6 v7 v8 v9 v10 v11 v52 h => kx x (n50 k G v1 v2 v4 v6 v7 v8 v9 v10 v11 v52 h) (G x v1 v2 v4 v6 v7 v8 v9 v10 v11 h)) v1 v2 v4 v6 v7 v8 v9 v10 v11 h
theorem n49_eq (G : KT9 R) (σ : GS) (h : Heap) : KC k 133 c49 σ h (fun x σ h => G x (σ 1) (σ 2) (σ 4) (σ 6) (σ 7) (σ 8) (σ 9) (σ 10) (σ 11) h) = n49 k G (σ 1) (σ 2) (σ 4) (σ 6) (σ 7) (σ 8) (σ 9) (σ 10) (σ 11) h := (kseq (b := c50) rfl (fun σ h => n50_eq k G σ h)).trans (n51_eq k (fun x v1 v2 v4 v6 v7 v8 v9 v10 v11 v52 h => kx x (n50 k G v1 v2 v4 v6 v7 v8 v9 v10 v11 v52 h) (G x v1 v2 v4 v6 v7 v8 v9 v10 v11 h)) σ h)
@[simp] def n9 (G : KT1 R) (v1 v2 v4 v6 v7 v8 v9 v10 v11 : GV) (h : Heap) : Option R := n49 k (fun x v1 v2 v4 v6 v7 v8 v9 v10 v11 h => kx x (n10 k G v1 v2 v4 v6 v7 v8 v9 v10 v11 h) (G x v4 h)) v1 v2 v4 v6 v7 v8 v9 v10 v11 h
theorem n9_eq (G : KT1 R) (σ : GS) (h : Heap) : KC k 133 c9 σ h (fun x σ h => G x (σ 4) h) = n9 k G (σ 1) (σ 2) (σ 4) (σ 6) (σ 7) (σ 8) (σ 9) (σ 10) (σ 11) h := (kseq (b := c10) rfl (fun σ h => n10_eq k G σ h)).trans (n49_eq k (fun x v1 v2 v4 v6 v7 v8 v9 v10 v11 h => kx x (n10 k G v1 v2 v4 v6 v7 v8 v9 v10 v11 h) (G x v4 h)) σ h)
noncomputable def c52 : Code := cL c8
@[simp] def n8 (G : KT1 R) (v1 v2 v4 v6 v7 v8 v9 : GV) (h : Heap) : Option R := (kloadA 4 h v8).bind fun v38 => (kF false HH fn.impl_Parsed [v38, v9] h).bind fun r => kr r fun v40 h => (kxt 0 v40).bind fun v41 => (kxt 1 v40).bind fun v42 => kalloc [(.int .i64 0), .nils, (.int .i64 0), .nils] h fun v10 h => (kstore 4 h v10 v41).bind fun h => n9 k G v1 v2 v4 v6 v7 v8 v9 v10 v42 h
theorem n8_eq (G : KT1 R) (σ : GS) (h : Heap) : KC k 133 c8 σ h (fun x σ h => G x (σ 4) h) = n8 k G (σ 1) (σ 2) (σ 4) (σ 6) (σ 7) (σ 8) (σ 9) h := (kseq (a := c52) (b := c9) rfl (fun σ h => n9_eq k G σ h)).trans (by kernel_rfl)
noncomputable def c53 : Code := cL c7
@[simp] def n7 (G : KT1 R) (v1 v2 v4 v6 v7 v8 : GV) (h : Heap) : Option R := (kF false HH fn.laws_toInt64S [v1] h).bind fun r => kr r fun v36 h => n8 k G v1 v2 v4 v6 v7 v8 v36 h
theorem n7_eq (G : KT1 R) (σ : GS) (h : Heap) : KC k 133 c7 σ h (fun x σ h => G x (σ 4) h) = n7 k G (σ 1) (σ 2) (σ 4) (σ 6) (σ 7) (σ 8) h := (kseq (a := c53) (b := c8) rfl (fun σ h => n8_eq k G σ h)).trans (by kernel_rfl)
noncomputable def c54 : Code := cL c6
@[simp] def n6 (G : KT1 R) (v1 v2 v4 v6 v7 : GV) (h : Heap) : Option R := (kloadA 4 h v2).bind fun v33 => (kF false HH fn.laws_toParser [v33] h).bind fun r => kr r fun v34 h => kalloc [(.int .i64 0), .nils, (.int .i64 0), .nils] h fun v8 h => (kstore 4 h v8 v34).bind fun h => n7 k G v1 v2 v4 v6 v7 v8 h
theorem n6_eq (G : KT1 R) (σ : GS) (h : Heap) : KC k 133 c6 σ h (fun x σ h => G x (σ 4) h) = n6 k G (σ 1) (σ 2) (σ 4) (σ 6) (σ 7) h := (kseq (a := c54) (b := c7) rfl (fun σ h => n7_eq k G σ h)).trans (by kernel_rfl)
noncomputable def c55 : Code := cL c5
@[simp] def n5 (G : KT1 R) (v1 v2 v4 : GV) (h : Heap) : Option R := (kloadA 4 h v2).bind fun v26 => (kF false HH fn.laws_toParser [v26] h).bind fun r => kr r fun v27 h => (kF false HH fn.laws_toInt64S [v1] h).bind fun r => kr r fun v29 h => (kN NN fn.spec_Parsed [v27, v29] h).bind fun v30 => (kxt 0 v30).bind fun v31 => (kxt 1 v30).bind fun v32 => kalloc [(.int .i64 0), .nils, (.int .i64 0), .nils] h fun v6 h => (kstore 4 h v6 v31).bind fun h => n6 k G v1 v2 v4 v6 v32 h
theorem n5_eq (G : KT1 R) (σ : GS) (h : Heap) : KC k 133 c5 σ h (fun x σ h => G x (σ 4) h) = n5 k G (σ 1) (σ 2) (σ 4) h := (kseq (a := c55) (b := c6) rfl (fun σ h => n6_eq k G σ h)).trans (by kernel_rfl)
noncomputable def c56 : Code := cL c4
@[simp] def n4 (G : KT1 R) (v1 v2 v4 v5 : GV) (h : Heap) : Option R := (kbin .lss v5 (.int .i64 0)).bind fun v24 => kcond v24 (G .ret (.bool true) h) (n5 k G v1 v2 v4 h)
theorem n4_eq (G : KT1 R) (σ : GS) (h : Heap) : KC k 133 c4 σ h (fun x σ h => G x (σ 4) h) = n4 k G (σ 1) (σ 2) (σ 4) (σ 5) h := (kseq (a := c56) (b := c5) rfl (fun σ h => n5_eq k G σ h)).trans (by kernel_rfl)
noncomputable def c57 : Code := cL c3
@[simp] def n3 (G : KT1 R) (v1 v2 v4 v5 : GV) (h : Heap) : Option R := (kloadA 4 h v2).bind fun v20 => (kN NN fn.laws_szParser [v20, v5] h).bind fun v22 => n4 k G v1 v2 v4 v22 h
theorem n3_eq (G : KT1 R) (σ : GS) (h : Heap) : KC k 133 c3 σ h (fun x σ h => G x (σ 4) h) = n3 k G (σ 1) (σ 2) (σ 4) (σ 5) h := (kseq (a := c57) (b := c4) rfl (fun σ h => n4_eq k G σ h)).trans (by kernel_rfl)
noncomputable def c58 : Code := cL c2
@[simp] def n2 (G : KT1 R) (v1 v2 v4 : GV) (h : Heap) : Option R := n3 k G v1 v2 v4 (.int .i64 1048576) h
theorem n2_eq (G : KT1 R) (σ : GS) (h : Heap) : KC k 133 c2 σ h (fun x σ h => G x (σ 4) h) = n2 k G (σ 1) (σ 2) (σ 4) h := (kseq (a := c58) (b := c3) rfl (fun σ h => n3_eq k G σ h)).trans (by kernel_rfl)
noncomputable def c59 : Code := cL c1
@[simp] def n1 (G : KT1 R) (v1 v2 v4 : GV) (h : Heap) : Option R := (klen v1).bind fun v18 => (kbin .gtr v18 (.int .i64 1048576)).bind fun v19 => kcond v19 (G .ret (.bool true) h) (n2 k G v1 v2 v4 h)
theorem n1_eq (G : KT1 R) (σ : GS) (h : Heap) : KC k 133 c1 σ h (fun x σ h => G x (σ 4) h) = n1 k G (σ 1) (σ 2) (σ 4) h := (kseq (a := c59) (b := c2) rfl (fun σ h => n2_eq k G σ h)).trans (by kernel_rfl)
noncomputable def c60 : Code := cL c0
@[simp] def n0 (G : KT1 R) (v0 v1 : GV) (h : Heap) : Option R := kbox v0 h fun v2 h => n1 k G v1 v2 (.bool false) h
theorem n0_eq (G : KT1 R) (σ : GS) (h : Heap) : KC k 133 c0 σ h (fun x σ h => G x (σ 4) h) = n0 k G (σ 0) (σ 1) h := (kseq (a := c60) (b := c1) rfl (fun σ h => n1_eq k G σ h)).trans (by kernel_rfl)
def run {R : Type} (k : Nat) (a0 : GV) (a1 : GV) (h : Heap) (fin : GV → Heap → Option R) : Option R := n0 k (fun x v4 h => kend x (fin v4 h)) a0 a1 h
theorem run_eq {R : Type} (k : Nat) (a0 : GV) (a1 : GV) (h : Heap) (fin : GV → Heap → Option R) : kfun PP cfg NN HH k fn.laws_FnExactParsed [a0, a1] h fin = run k a0 a1 h fin := (kfun_eq (nt := 133) (c := c0) (show PP.funcs[fn.laws_FnExactParsed]? = some Try.f10 by kernel_rfl) (by kernel_rfl) (by kernel_rfl) (fun x σ h => by cases x <;> kernel_rfl)).trans (n0_eq k (fun x v4 h => kend x (fin v4 h)) _ h)
theorem gives {k : Nat} {a0 : GV} {a1 : GV} {v : GV} (e : run k a0 a1 [] finN = some v) : NN fn.laws_FnExactParsed [a0, a1] = some v := nω_of (by kernel_rfl) ((run_eq k a0 a1 [] finN).trans e)
end S.laws_FnExactParsed
end
end Go.Proofs.Ytlbnioapepelnaa.G

namespace Go.Proofs.Ytlbnioapepelnaa.G
open Go.RowKit
set_option linter.unusedVariables false
set_option linter.unusedSimpArgs false
set_option maxRecDepth 100000
theorem bors_pl_Parsed {H : Heap} {g : GV} {gs xs : List GV} (hg : bor 9 H g = some (g, [])) (h : bors H gs = some xs) : bors H (g :: gs) = some (g :: xs) := by rw [bors_cons, hg, h]; rfl
theorem FnExactParsed_row (a0 : (Int × List (Int) × Int × List (Int))) (i0 : (Lit.int .i64 a0.1).wf = true ∧ (inSl (fun x1 : Int => (Lit.int .i64 x1).wf = true) a0.2.1 ∧ ((Lit.int .i64 a0.2.2.1).wf = true ∧ inSl (fun x1 : Int => (Lit.int .i64 x1).wf = true) a0.2.2.2))) (a1 : List (Int)) (i1 : inSl (fun x1 : Int => (Lit.int .i64 x1).wf = true) a1) : NN fn.laws_FnExactParsed [(.agg [GV.int .i64 a0.1, fzl true 1 (fun x1 : Int => [GV.int .i64 x1]) a0.2.1, GV.int .i64 a0.2.2.1, fzl true 1 (fun x1 : Int => [GV.int .i64 x1]) a0.2.2.2]), (fzl true 1 (fun x1 : Int => [GV.int .i64 x1]) a1)] = some (.bool true) := by
  obtain ⟨e0_1, e0_2, e0_3, e0_4⟩ := a0
  try simp only at i0
  have sz0 := laws_szParser_spec e0_1 e0_2 e0_3 e0_4 1048576 i0 (by omega) (by omega)
  obtain ⟨a0, ha0⟩ : ∃ a : (Int × List (Int) × Int × List (Int)), (e0_1, e0_2, e0_3, e0_4) = a := ⟨_, rfl⟩
  have sz0 : NN fn.laws_szParser [.agg (mParser true (e0_1, e0_2, e0_3, e0_4)), .int .i64 1048576] = _ := sz0
  have bM0 : ∀ (H : Heap) (gs zs : List GV), bors H gs = some zs → bors H (.agg (mParser true (e0_1, e0_2, e0_3, e0_4)) :: gs) = some (.agg (mParser true (e0_1, e0_2, e0_3, e0_4)) :: zs) := fun H gs zs h => by
    rw [bors_cons, h]; simp
  show NN fn.laws_FnExactParsed [.agg (mParser true (e0_1, e0_2, e0_3, e0_4)), (fzl true 1 ci a1)] = some (.bool true)
  rw [ha0] at sz0 bM0 ⊢
  have hML0 : (mParser true a0).length = 4 := rfl
  obtain ⟨M0, hM0⟩ : ∃ M, mParser true a0 = M := ⟨_, rfl⟩
  rw [hM0] at sz0 bM0 hML0 ⊢
  apply S.laws_FnExactParsed.gives (k := 0)
  obtain ⟨H0, hH0⟩ : ∃ H0 : Heap, [M0] = H0 := ⟨_, rfl⟩
  have hbox0 : ∀ {Q : Type} (K : GV → Heap → Option Q), kbox (.agg M0) [] K = K (.ptr 0 0 4) H0 := fun K => by rw [kbox_agg, hML0, ← hH0]; rfl
  have A0 : H0[0]? = some M0 := by rw [← hH0]; rfl
  have l0 : H0.length = 1 := by rw [← hH0]; rfl
  by_cases hg1 : (1048576 : Int) < (a1.length : Int)
  · simp [S.laws_FnExactParsed.run, hbox0, hg1, -kN_eq]
  have kg1 : kbin .gtr (.int .i64 (a1.length : Int)) (.int .i64 1048576) = some (.bool false) := by rw [kbin_gtr, decide_eq_false hg1]
  have hm1 : okInt64S a1 := okInt64S_of (by unfold zInt64S; omega)
  have sz' : kN NN fn.laws_szParser [.agg M0, .int .i64 1048576] H0 = _ := kN_at (bM0 _ _ _ (by simp)) sz0
  by_cases h : (1048576 : Int) < (zParser a0 : Int)
  · rw [if_pos h] at sz'
    simp [S.laws_FnExactParsed.run, hbox0, hg1, kloadA_at A0 hML0, sz', -kN_eq]
  rw [if_neg h] at sz'
  have hz : zParser a0 ≤ 1048576 := by omega
  have hm0 : okParser a0 := okParser_of hz
  have h1 : ¬ ((1048576 : Int) - (zParser a0 : Int) < 0) := by omega
  have ksz : kbin .lss (.int .i64 (1048576 - (zParser a0 : Int))) (.int .i64 0) = some (.bool false) := by rw [kbin_lss, decide_eq_false h1]
  have to0 := fun H => fresh_agg goodParser (f := fn.laws_toParser) (args := [.agg M0]) (xs := [.agg M0]) (H := H) (x := a0) (bM0 _ _ _ (by simp)) (by rw [← hM0]; exact laws_toParser_spec a0 hm0 H.length)
  have cl0 := cParser_le hm0
  have to1 := fun H => fresh_one goodInt64S (f := fn.laws_toInt64S) (args := [(fzl true 1 ci a1)]) (xs := [(fzl true 1 ci a1)]) (H := H) (x := a1) (by simp) (laws_toInt64S_spec a1 hm1 H.length)
  have cl1 := cInt64S_le hm1
  have okr := parsed2M_ok a0 hm0 a1 hm1
  have sp := spec_Parsed_spec a0 hm0 a1 hm1
  have im := impl_Parsed_spec a0 hm0 a1 hm1
  obtain ⟨w0, w1, hres⟩ : ∃ w0 w1, parsed2M a0 a1 = (w0, w1) := ⟨_, _, rfl⟩
  rw [hres] at okr sp
  simp only [hres] at im okr sp
  have ok0 : okParser w0 := okr.1
  have cw0 := cParser_le ok0
  have bW0 : ∀ (H : Heap) (gs zs : List GV), bors H gs = some zs → bors H (.agg (mParser false w0) :: gs) = some (.agg (mParser true w0) :: zs) := fun H gs zs h => by
    rw [bors_cons, h]; simp
  have hWL0 : (mParser false w0).length = 4 := rfl
  have hWc0 : (mParser false w0).all GV.isCell = true := by simp
  obtain ⟨W0, hW0⟩ : ∃ W, mParser false w0 = W := ⟨_, rfl⟩
  rw [hW0] at bW0 hWL0 hWc0 sp
  have esParser : ∀ x : (Int × List (Int) × Int × List (Int)), okParser x → NN fn.laws_eqParser [.agg (mParser true x), .agg (mParser true x)] = some (.bool true) := fun x hm => by
    obtain ⟨q_1, q_2, q_3, q_4⟩ := x
    have := laws_eqParser_spec q_1 q_1 q_2 q_2 q_3 q_3 q_4 q_4 hm
    rw [decide_eq_true rfl] at this
    exact this
  have ec0 := esParser w0 ok0
  have ok1 : okActionS w1 := okr.2
  have cw1 := cActionS_le ok1
  have bW1 : ∀ (H : Heap) (gs zs : List GV), bors H gs = some zs → bors H ((fzl false 5 (mAction false) w1) :: gs) = some ((fzl true 5 (mAction true) w1) :: zs) := fun H gs zs h => by
    rw [bors_cons, h]; simp
  obtain ⟨W1, hW1⟩ : ∃ W, (fzl false 5 (mAction false) w1) = W := ⟨_, rfl⟩
  rw [hW1] at bW1 sp
  have esActionS : ∀ x : List ((Int × Int × List (Int) × Int × List (Int))), okActionS x → NN fn.laws_eqActionS [(fzl true 5 (mAction true) x), (fzl true 5 (mAction true) x)] = some (.bool true) := fun x hm => by
    have := laws_eqActionS_spec x x hm
    rw [decide_eq_true rfl] at this
    exact this
  have ec1 := esActionS w1 ok1
  have ea0 := esParser a0 hm0
  have esInt64S : ∀ x : List (Int), okInt64S x → NN fn.laws_eqInt64S [(fzl true 1 ci x), (fzl true 1 ci x)] = some (.bool true) := fun x hm => by
    have := laws_eqInt64S_spec x x hm
    rw [decide_eq_true rfl] at this
    exact this
  have ea1 := esInt64S a1 hm1
  obtain ⟨c1, R1, H1, t1, r1_, n1, b1, f1, l1⟩ := to0 H0
  have A0_1 := f1.blk A0 no_nil
  obtain ⟨c2, R2, H2, t2, r2_, n2, b2, f2, l2⟩ := to1 H1
  have A0_2 := f2.blk A0_1 no_nil
  have r1_2 := goodParser.keep r1_ f2 (fun _ _ => no_nil)
  have s3 : kN NN fn.spec_Parsed [.agg c1, c2] H2 = some (.tup [.agg W0, W1]) := kN_at (bors_agg goodParser (by omega) r1_2 (bors_one (RFl.good (es := 1) (mk := ci) (fun _ => rfl) (fun _ => rfl)) (by omega) r2_ (by simp))) sp
  have v4 := var_at (H := H2) (z := [(.int .i64 0), .nils, (.int .i64 0), .nils]) (c := W0) (n := 4) rfl hWL0 hWc0
  obtain ⟨H4, hH4⟩ : ∃ H', H2 ++ [W0] = H' := ⟨_, rfl⟩
  have f4 : Fr [] H2 H4 := by rw [← hH4]; exact .app
  have l4 : H4.length = H2.length + 1 := by rw [← hH4]; simp
  have BW0_4 : H4[H2.length]? = some W0 := by rw [← hH4]; simp
  rw [hH4] at v4
  have A0_4 := f4.blk A0_2 no_nil
  obtain ⟨c5, R5, H5, t5, r5_, n5, b5, f5, l5⟩ := to0 H4
  have A0_5 := f5.blk A0_4 no_nil
  have BW0_5 := f5.blk BW0_4 no_nil
  have xl0 := goodParser.len r5_
  have xc0 := goodParser.cell r5_
  have v6 := var_at (H := H5) (z := [(.int .i64 0), .nils, (.int .i64 0), .nils]) (c := c5) (n := 4) rfl xl0 xc0
  obtain ⟨H6, hH6⟩ : ∃ H', H5 ++ [c5] = H' := ⟨_, rfl⟩
  have f6 : Fr [] H5 H6 := by rw [← hH6]; exact .app
  have l6 : H6.length = H5.length + 1 := by rw [← hH6]; simp
  have BX0_6 : H6[H5.length]? = some c5 := by rw [← hH6]; simp
  rw [hH6] at v6
  have A0_6 := f6.blk A0_5 no_nil
  have BW0_6 := f6.blk BW0_5 no_nil
  have r5_6 := goodParser.keep r5_ f6 (fun _ _ => no_nil)
  obtain ⟨c7, R7, H7, t7, r7_, n7, b7, f7, l7⟩ := to1 H6
  have A0_7 := f7.blk A0_6 no_nil
  have BW0_7 := f7.blk BW0_6 no_nil
  have BX0_7 := f7.blk BX0_6 no_nil
  have r5_7 := goodParser.keep r5_6 f7 (fun _ _ => no_nil)
  obtain ⟨g8, u8, R8, S8, H8, t8, r8_, z8_, n8, nS8, ⟨m8_, b8, d8, p8, p8_⟩, f8, l8⟩ := fresh_pair goodParser goodActionS (f := fn.impl_Parsed) (args := [.agg c5, c7]) (xs := [.agg (mParser true a0), (fzl true 1 ci a1)]) (H := H7) (x := w0) (y := w1) (bors_agg goodParser (by omega) r5_7 (bors_one (RFl.good (es := 1) (mk := ci) (fun _ => rfl) (fun _ => rfl)) (by omega) r7_ (by simp))) (im H7.length)
  have A0_8 := f8.blk A0_7 no_nil
  have BW0_8 := f8.blk BW0_7 no_nil
  have BX0_8 := f8.blk BX0_7 no_nil
  have r5_8 := goodParser.keep r5_7 f8 (fun _ _ => no_nil)
  have r7_8 := goodInt64S.keep r7_ f8 (fun _ _ => no_nil)
  have glG0 := goodParser.len r8_
  have gcG0 := goodParser.cell r8_
  have v9 := var_at (H := H8) (z := [(.int .i64 0), .nils, (.int .i64 0), .nils]) (c := g8) (n := 4) rfl glG0 gcG0
  obtain ⟨H9, hH9⟩ : ∃ H', H8 ++ [g8] = H' := ⟨_, rfl⟩
  have f9 : Fr [] H8 H9 := by rw [← hH9]; exact .app
  have l9 : H9.length = H8.length + 1 := by rw [← hH9]; simp
  have BG0_9 : H9[H8.length]? = some g8 := by rw [← hH9]; simp
  rw [hH9] at v9
  have A0_9 := f9.blk A0_8 no_nil
  have BW0_9 := f9.blk BW0_8 no_nil
  have BX0_9 := f9.blk BX0_8 no_nil
  have r5_9 := goodParser.keep r5_8 f9 (fun _ _ => no_nil)
  have r7_9 := goodInt64S.keep r7_8 f9 (fun _ _ => no_nil)
  have r8_9 := goodParser.keep r8_ f9 (fun _ _ => no_nil)
  have z8_9 := goodActionS.keep z8_ f9 (fun _ _ => no_nil)
  have e10 : kN NN fn.laws_eqParser [.agg g8, .agg W0] H9 = some (.bool true) := kN_at (bors_agg goodParser (by omega) r8_9 (bW0 _ _ _ (by simp))) ec0
  have e11 : kN NN fn.laws_eqActionS [u8, W1] H9 = some (.bool true) := kN_at (bors_one goodAction (by omega) z8_9 (bW1 _ _ _ (by simp))) ec1
  obtain ⟨c12, R12, H12, t12, r12_, n12, b12, f12, l12⟩ := to0 H9
  have A0_12 := f12.blk A0_9 no_nil
  have BW0_12 := f12.blk BW0_9 no_nil
  have BX0_12 := f12.blk BX0_9 no_nil
  have BG0_12 := f12.blk BG0_9 no_nil
  have r5_12 := goodParser.keep r5_9 f12 (fun _ _ => no_nil)
  have r7_12 := goodInt64S.keep r7_9 f12 (fun _ _ => no_nil)
  have r8_12 := goodParser.keep r8_9 f12 (fun _ _ => no_nil)
  have z8_12 := goodActionS.keep z8_9 f12 (fun _ _ => no_nil)
  have e13 : kN NN fn.laws_eqParser [.agg c5, .agg c12] H12 = some (.bool true) := kN_at (bors_agg goodParser (by omega) r5_12 (bors_agg goodParser (by omega) r12_ (by simp))) ea0
  obtain ⟨c14, R14, H14, t14, r14_, n14, b14, f14, l14⟩ := to1 H12
  have A0_14 := f14.blk A0_12 no_nil
  have BW0_14 := f14.blk BW0_12 no_nil
  have BX0_14 := f14.blk BX0_12 no_nil
  have BG0_14 := f14.blk BG0_12 no_nil
  have r5_14 := goodParser.keep r5_12 f14 (fun _ _ => no_nil)
  have r7_14 := goodInt64S.keep r7_12 f14 (fun _ _ => no_nil)
  have r8_14 := goodParser.keep r8_12 f14 (fun _ _ => no_nil)
  have z8_14 := goodActionS.keep z8_12 f14 (fun _ _ => no_nil)
  have e15 : kN NN fn.laws_eqInt64S [c7, c14] H14 = some (.bool true) := kN_at (bors_one (RFl.good (es := 1) (mk := ci) (fun _ => rfl) (fun _ => rfl)) (by omega) r7_14 (bors_one (RFl.good (es := 1) (mk := ci) (fun _ => rfl) (fun _ => rfl)) (by omega) r14_ (by simp))) ea1
  obtain ⟨H16, m16, rr16, f16⟩ := laws_markParser_spec H14 c5 a0 R5 (1) hm0 r5_14 n5 (by omega)
  have l16 := f16.1
  simp only [show ((1 : Nat) : Int) = 1 from rfl] at m16
  have A0_16 := f16.blk A0_14 (b5.no (by omega))
  have BW0_16 := f16.blk BW0_14 (b5.no (by omega))
  have BX0_16 := f16.blk BX0_14 (b5.no (by omega))
  have BG0_16 := f16.blk BG0_14 (b5.no (by omega))
  have r7_16 := goodInt64S.keep r7_14 f16 (b7.apart b5 (by omega))
  have r8_16 := goodParser.keep r8_14 f16 (b8.apart b5 (by omega))
  have z8_16 := goodActionS.keep z8_14 f16 (d8.apart b5 (by omega))
  obtain ⟨H17, m17, rr17, f17⟩ := laws_markInt64S_spec H16 c7 a1 R7 (1 + cParser a0) hm1 r7_16 n7 (by omega)
  have l17 := f17.1
  have A0_17 := f17.blk A0_16 (b7.no (by omega))
  have BW0_17 := f17.blk BW0_16 (b7.no (by omega))
  have BX0_17 := f17.blk BX0_16 (b7.no (by omega))
  have BG0_17 := f17.blk BG0_16 (b7.no (by omega))
  have r8_17 := goodParser.keep r8_16 f17 (b8.apart b7 (by omega))
  have z8_17 := goodActionS.keep z8_16 f17 (d8.apart b7 (by omega))
  have kn18 : kbin .lss (.int .i64 ((1 + cParser a0 + cInt64S a1 : Nat) : Int)) (.int .i64 0) = some (.bool false) := by rw [kbin_lss, decide_eq_false (by omega)]
  have e19 : kN NN fn.laws_eqParser [.agg g8, .agg W0] H17 = some (.bool true) := kN_at (bors_agg goodParser (by omega) r8_17 (bW0 _ _ _ (by simp))) ec0
  have e20 : kN NN fn.laws_eqActionS [u8, W1] H17 = some (.bool true) := kN_at (bors_one goodAction (by omega) z8_17 (bW1 _ _ _ (by simp))) ec1
  obtain ⟨H21, m21, rr21, f21⟩ := laws_markParser_spec H17 g8 w0 R8 (1) ok0 r8_17 n8 (by omega)
  have l21 := f21.1
  simp only [show ((1 : Nat) : Int) = 1 from rfl] at m21
  have A0_21 := f21.blk A0_17 (b8.no (by omega))
  have BW0_21 := f21.blk BW0_17 (b8.no (by omega))
  have BX0_21 := f21.blk BX0_17 (b8.no (by omega))
  have BG0_21 := f21.blk BG0_17 (b8.no (by omega))
  have z8_21 := goodActionS.keep z8_17 f21 (d8.apart b8 (by omega))
  obtain ⟨H22, m22, rr22, f22⟩ := laws_markActionS_spec H21 u8 w1 S8 (1 + cParser w0) ok1 z8_21 nS8 (by omega)
  have l22 := f22.1
  have A0_22 := f22.blk A0_21 (d8.no (by omega))
  have BW0_22 := f22.blk BW0_21 (d8.no (by omega))
  have BX0_22 := f22.blk BX0_21 (d8.no (by omega))
  have BG0_22 := f22.blk BG0_21 (d8.no (by omega))
  have r8_22 := goodParser.keep rr21 f22 (b8.apart d8 (by omega))
  have hd23 := laws_heldParser_spec w0 (1) ok0 (by omega)
  have q23 : kN NN fn.laws_heldParser [.agg g8, .int .i64 ((1 : Nat) : Int)] H22 = some (.int .i64 ((1 + cParser w0 : Nat) : Int)) := kN_at (bors_agg goodParser (by omega) r8_22 (bors_pl_Parsed (by simp) (by simp))) hd23
  simp only [show ((1 : Nat) : Int) = 1 from rfl] at q23
  have kn23 : kbin .lss (.int .i64 ((1 + cParser w0 : Nat) : Int)) (.int .i64 0) = some (.bool false) := by rw [kbin_lss, decide_eq_false (by omega)]
  have hd24 := laws_heldActionS_spec w1 (1 + cParser w0) ok1 (by omega)
  have q24 : kN NN fn.laws_heldActionS [u8, .int .i64 ((1 + cParser w0 : Nat) : Int)] H22 = some (.int .i64 ((1 + cParser w0 + cActionS w1 : Nat) : Int)) := kN_at (bors_one goodAction (by omega) rr22 (bors_pl_Parsed (by simp) (by simp))) hd24
  have kn24 : kbin .lss (.int .i64 ((1 + cParser w0 + cActionS w1 : Nat) : Int)) (.int .i64 0) = some (.bool false) := by rw [kbin_lss, decide_eq_false (by omega)]
  have kq : kbin .neq (.int .i64 ((1 + cParser w0 + cActionS w1 : Nat) : Int)) (.int .i64 ((1 + cParser w0 + cActionS w1 : Nat) : Int)) = some (.bool false) := by simp
  obtain ⟨c25, R25, H25, t25, r25_, n25, b25, f25, l25⟩ := to0 H22
  have A0_25 := f25.blk A0_22 no_nil
  have BW0_25 := f25.blk BW0_22 no_nil
  have BX0_25 := f25.blk BX0_22 no_nil
  have BG0_25 := f25.blk BG0_22 no_nil
  have r8_25 := goodParser.keep r8_22 f25 (fun _ _ => no_nil)
  have z8_25 := goodActionS.keep rr22 f25 (fun _ _ => no_nil)
  obtain ⟨c26, R26, H26, t26, r26_, n26, b26, f26, l26⟩ := to1 H25
  have A0_26 := f26.blk A0_25 no_nil
  have BW0_26 := f26.blk BW0_25 no_nil
  have BX0_26 := f26.blk BX0_25 no_nil
  have BG0_26 := f26.blk BG0_25 no_nil
  have r8_26 := goodParser.keep r8_25 f26 (fun _ _ => no_nil)
  have z8_26 := goodActionS.keep z8_25 f26 (fun _ _ => no_nil)
  have r25_26 := goodParser.keep r25_ f26 (fun _ _ => no_nil)
  obtain ⟨g27, u27, R27, S27, H27, t27, r27_, z27_, n27, nS27, ⟨m27_, b27, d27, p27, p27_⟩, f27, l27⟩ := fresh_pair goodParser goodActionS (f := fn.impl_Parsed) (args := [.agg c25, c26]) (xs := [.agg (mParser true a0), (fzl true 1 ci a1)]) (H := H26) (x := w0) (y := w1) (bors_agg goodParser (by omega) r25_26 (bors_one (RFl.good (es := 1) (mk := ci) (fun _ => rfl) (fun _ => rfl)) (by omega) r26_ (by simp))) (im H26.length)
  have A0_27 := f27.blk A0_26 no_nil
  have BW0_27 := f27.blk BW0_26 no_nil
  have BX0_27 := f27.blk BX0_26 no_nil
  have BG0_27 := f27.blk BG0_26 no_nil
  have r8_27 := goodParser.keep r8_26 f27 (fun _ _ => no_nil)
  have z8_27 := goodActionS.keep z8_26 f27 (fun _ _ => no_nil)
  have r25_27 := goodParser.keep r25_26 f27 (fun _ _ => no_nil)
  have r26_27 := goodInt64S.keep r26_ f27 (fun _ _ => no_nil)
  have glY0 := goodParser.len r27_
  have gcY0 := goodParser.cell r27_
  have v28 := var_at (H := H27) (z := [(.int .i64 0), .nils, (.int .i64 0), .nils]) (c := g27) (n := 4) rfl glY0 gcY0
  obtain ⟨H28, hH28⟩ : ∃ H', H27 ++ [g27] = H' := ⟨_, rfl⟩
  have f28 : Fr [] H27 H28 := by rw [← hH28]; exact .app
  have l28 : H28.length = H27.length + 1 := by rw [← hH28]; simp
  have BY0_28 : H28[H27.length]? = some g27 := by rw [← hH28]; simp
  rw [hH28] at v28
  have A0_28 := f28.blk A0_27 no_nil
  have BW0_28 := f28.blk BW0_27 no_nil
  have BX0_28 := f28.blk BX0_27 no_nil
  have BG0_28 := f28.blk BG0_27 no_nil
  have r8_28 := goodParser.keep r8_27 f28 (fun _ _ => no_nil)
  have z8_28 := goodActionS.keep z8_27 f28 (fun _ _ => no_nil)
  have r25_28 := goodParser.keep r25_27 f28 (fun _ _ => no_nil)
  have r26_28 := goodInt64S.keep r26_27 f28 (fun _ _ => no_nil)
  have r27_28 := goodParser.keep r27_ f28 (fun _ _ => no_nil)
  have z27_28 := goodActionS.keep z27_ f28 (fun _ _ => no_nil)
  have e29 : kN NN fn.laws_eqParser [.agg g27, .agg W0] H28 = some (.bool true) := kN_at (bors_agg goodParser (by omega) r27_28 (bW0 _ _ _ (by simp))) ec0
  have e30 : kN NN fn.laws_eqActionS [u27, W1] H28 = some (.bool true) := kN_at (bors_one goodAction (by omega) z27_28 (bW1 _ _ _ (by simp))) ec1
  have hd31 := laws_heldParser_spec w0 (1) ok0 (by omega)
  have q31 : kN NN fn.laws_heldParser [.agg g8, .int .i64 ((1 : Nat) : Int)] H28 = some (.int .i64 ((1 + cParser w0 : Nat) : Int)) := kN_at (bors_agg goodParser (by omega) r8_28 (bors_pl_Parsed (by simp) (by simp))) hd31
  simp only [show ((1 : Nat) : Int) = 1 from rfl] at q31
  have kn31 : kbin .lss (.int .i64 ((1 + cParser w0 : Nat) : Int)) (.int .i64 0) = some (.bool false) := by rw [kbin_lss, decide_eq_false (by omega)]
  have hd32 := laws_heldActionS_spec w1 (1 + cParser w0) ok1 (by omega)
  have q32 : kN NN fn.laws_heldActionS [u8, .int .i64 ((1 + cParser w0 : Nat) : Int)] H28 = some (.int .i64 ((1 + cParser w0 + cActionS w1 : Nat) : Int)) := kN_at (bors_one goodAction (by omega) z8_28 (bors_pl_Parsed (by simp) (by simp))) hd32
  have kn32 : kbin .lss (.int .i64 ((1 + cParser w0 + cActionS w1 : Nat) : Int)) (.int .i64 0) = some (.bool false) := by rw [kbin_lss, decide_eq_false (by omega)]
  simp only [S.laws_FnExactParsed.run, S.laws_FnExactParsed.n0, S.laws_FnExactParsed.n1, S.laws_FnExactParsed.n2, Option.bind_some, kr_mk, kxt_tup, List.getElem?_cons_zero, List.getElem?_cons_succ, kcond_bool, cond_true, cond_false, kun_not, Bool.not_true, Bool.not_false, kpick_bool, tr_bool, tr_un, kx_nrm, kx_ret, kb_nrm, kb_ret, kend_ret, kend_nrm, finN_bool, klenS_str, beq_self_eq_true, beq_false, Bool.false_eq_true, BEq.rfl, Bool.beq_eq_decide_eq, decide_true, decide_false, reduceCtorEq, kalloc_at, hbox0, kg1, klen_fzl, kloadA_at A0 hML0, sz', ksz, t1, t2, s3, v4, hH4, kloadA_at A0_4 hML0, t5, v6, hH6, t7, kloadA_at BX0_7 xl0, t8, v9, hH9, kloadA_at BG0_9 glG0, kloadA_at BW0_9 hWL0, e10, e11, kloadA_at BX0_9 xl0, kloadA_at A0_9 hML0, t12, e13, t14, e15, kloadA_at BX0_14 xl0, m16, m17, kn18, kloadA_at BG0_17 glG0, kloadA_at BW0_17 hWL0, e19, e20, m21, m22, kloadA_at BG0_22 glG0, q23, kn23, q24, kn24, kq, kloadA_at A0_22 hML0, t25, t26, t27, v28, hH28, kloadA_at BY0_28 glY0, kloadA_at BW0_28 hWL0, e29, e30, kloadA_at BG0_28 glG0, q31, kn31, q32, kn32, List.length_cons, List.length_nil, Nat.zero_add, Nat.reduceAdd]
  try simp only [S.laws_FnExactParsed.n3, S.laws_FnExactParsed.n4, S.laws_FnExactParsed.n5, S.laws_FnExactParsed.n6, Option.bind_some, kr_mk, kxt_tup, List.getElem?_cons_zero, List.getElem?_cons_succ, kcond_bool, cond_true, cond_false, kun_not, Bool.not_true, Bool.not_false, kpick_bool, tr_bool, tr_un, kx_nrm, kx_ret, kb_nrm, kb_ret, kend_ret, kend_nrm, finN_bool, klenS_str, beq_self_eq_true, beq_false, Bool.false_eq_true, BEq.rfl, Bool.beq_eq_decide_eq, decide_true, decide_false, reduceCtorEq, kalloc_at, hbox0, kg1, klen_fzl, kloadA_at A0 hML0, sz', ksz, t1, t2, s3, v4, hH4, kloadA_at A0_4 hML0, t5, v6, hH6, t7, kloadA_at BX0_7 xl0, t8, v9, hH9, kloadA_at BG0_9 glG0, kloadA_at BW0_9 hWL0, e10, e11, kloadA_at BX0_9 xl0, kloadA_at A0_9 hML0, t12, e13, t14, e15, kloadA_at BX0_14 xl0, m16, m17, kn18, kloadA_at BG0_17 glG0, kloadA_at BW0_17 hWL0, e19, e20, m21, m22, kloadA_at BG0_22 glG0, q23, kn23, q24, kn24, kq, kloadA_at A0_22 hML0, t25, t26, t27, v28, hH28, kloadA_at BY0_28 glY0, kloadA_at BW0_28 hWL0, e29, e30, kloadA_at BG0_28 glG0, q31, kn31, q32, kn32, List.length_cons, List.length_nil, Nat.zero_add, Nat.reduceAdd]
  try simp only [S.laws_FnExactParsed.n7, S.laws_FnExactParsed.n8, S.laws_FnExactParsed.n9, S.laws_FnExactParsed.n49, Option.bind_some, kr_mk, kxt_tup, List.getElem?_cons_zero, List.getElem?_cons_succ, kcond_bool, cond_true, cond_false, kun_not, Bool.not_true, Bool.not_false, kpick_bool, tr_bool, tr_un, kx_nrm, kx_ret, kb_nrm, kb_ret, kend_ret, kend_nrm, finN_bool, klenS_str, beq_self_eq_true, beq_false, Bool.false_eq_true, BEq.rfl, Bool.beq_eq_decide_eq, decide_true, decide_false, reduceCtorEq, kalloc_at, hbox0, kg1, klen_fzl, kloadA_at A0 hML0, sz', ksz, t1, t2, s3, v4, hH4, kloadA_at A0_4 hML0, t5, v6, hH6, t7, kloadA_at BX0_7 xl0, t8, v9, hH9, kloadA_at BG0_9 glG0, kloadA_at BW0_9 hWL0, e10, e11, kloadA_at BX0_9 xl0, kloadA_at A0_9 hML0, t12, e13, t14, e15, kloadA_at BX0_14 xl0, m16, m17, kn18, kloadA_at BG0_17 glG0, kloadA_at BW0_17 hWL0, e19, e20, m21, m22, kloadA_at BG0_22 glG0, q23, kn23, q24, kn24, kq, kloadA_at A0_22 hML0, t25, t26, t27, v28, hH28, kloadA_at BY0_28 glY0, kloadA_at BW0_28 hWL0, e29, e30, kloadA_at BG0_28 glG0, q31, kn31, q32, kn32, List.length_cons, List.length_nil, Nat.zero_add, Nat.reduceAdd]
  try simp only [S.laws_FnExactParsed.n51, S.laws_FnExactParsed.g51_0, S.laws_FnExactParsed.g51_1, S.laws_FnExactParsed.g51_2, Option.bind_some, kr_mk, kxt_tup, List.getElem?_cons_zero, List.getElem?_cons_succ, kcond_bool, cond_true, cond_false, kun_not, Bool.not_true, Bool.not_false, kpick_bool, tr_bool, tr_un, kx_nrm, kx_ret, kb_nrm, kb_ret, kend_ret, kend_nrm, finN_bool, klenS_str, beq_self_eq_true, beq_false, Bool.false_eq_true, BEq.rfl, Bool.beq_eq_decide_eq, decide_true, decide_false, reduceCtorEq, kalloc_at, hbox0, kg1, klen_fzl, kloadA_at A0 hML0, sz', ksz, t1, t2, s3, v4, hH4, kloadA_at A0_4 hML0, t5, v6, hH6, t7, kloadA_at BX0_7 xl0, t8, v9, hH9, kloadA_at BG0_9 glG0, kloadA_at BW0_9 hWL0, e10, e11, kloadA_at BX0_9 xl0, kloadA_at A0_9 hML0, t12, e13, t14, e15, kloadA_at BX0_14 xl0, m16, m17, kn18, kloadA_at BG0_17 glG0, kloadA_at BW0_17 hWL0, e19, e20, m21, m22, kloadA_at BG0_22 glG0, q23, kn23, q24, kn24, kq, kloadA_at A0_22 hML0, t25, t26, t27, v28, hH28, kloadA_at BY0_28 glY0, kloadA_at BW0_28 hWL0, e29, e30, kloadA_at BG0_28 glG0, q31, kn31, q32, kn32, List.length_cons, List.length_nil, Nat.zero_add, Nat.reduceAdd]
  try simp only [S.laws_FnExactParsed.n50, S.laws_FnExactParsed.n10, S.laws_FnExactParsed.n11, S.laws_FnExactParsed.n12, Option.bind_some, kr_mk, kxt_tup, List.getElem?_cons_zero, List.getElem?_cons_succ, kcond_bool, cond_true, cond_false, kun_not, Bool.not_true, Bool.not_false, kpick_bool, tr_bool, tr_un, kx_nrm, kx_ret, kb_nrm, kb_ret, kend_ret, kend_nrm, finN_bool, klenS_str, beq_self_eq_true, beq_false, Bool.false_eq_true, BEq.rfl, Bool.beq_eq_decide_eq, decide_true, decide_false, reduceCtorEq, kalloc_at, hbox0, kg1, klen_fzl, kloadA_at A0 hML0, sz', ksz, t1, t2, s3, v4, hH4, kloadA_at A0_4 hML0, t5, v6, hH6, t7, kloadA_at BX0_7 xl0, t8, v9, hH9, kloadA_at BG0_9 glG0, kloadA_at BW0_9 hWL0, e10, e11, kloadA_at BX0_9 xl0, kloadA_at A0_9 hML0, t12, e13, t14, e15, kloadA_at BX0_14 xl0, m16, m17, kn18, kloadA_at BG0_17 glG0, kloadA_at BW0_17 hWL0, e19, e20, m21, m22, kloadA_at BG0_22 glG0, q23, kn23, q24, kn24, kq, kloadA_at A0_22 hML0, t25, t26, t27, v28, hH28, kloadA_at BY0_28 glY0, kloadA_at BW0_28 hWL0, e29, e30, kloadA_at BG0_28 glG0, q31, kn31, q32, kn32, List.length_cons, List.length_nil, Nat.zero_add, Nat.reduceAdd]
  try simp only [S.laws_FnExactParsed.n13, S.laws_FnExactParsed.n14, S.laws_FnExactParsed.n15, S.laws_FnExactParsed.n41, Option.bind_some, kr_mk, kxt_tup, List.getElem?_cons_zero, List.getElem?_cons_succ, kcond_bool, cond_true, cond_false, kun_not, Bool.not_true, Bool.not_false, kpick_bool, tr_bool, tr_un, kx_nrm, kx_ret, kb_nrm, kb_ret, kend_ret, kend_nrm, finN_bool, klenS_str, beq_self_eq_true, beq_false, Bool.false_eq_true, BEq.rfl, Bool.beq_eq_decide_eq, decide_true, decide_false, reduceCtorEq, kalloc_at, hbox0, kg1, klen_fzl, kloadA_at A0 hML0, sz', ksz, t1, t2, s3, v4, hH4, kloadA_at A0_4 hML0, t5, v6, hH6, t7, kloadA_at BX0_7 xl0, t8, v9, hH9, kloadA_at BG0_9 glG0, kloadA_at BW0_9 hWL0, e10, e11, kloadA_at BX0_9 xl0, kloadA_at A0_9 hML0, t12, e13, t14, e15, kloadA_at BX0_14 xl0, m16, m17, kn18, kloadA_at BG0_17 glG0, kloadA_at BW0_17 hWL0, e19, e20, m21, m22, kloadA_at BG0_22 glG0, q23, kn23, q24, kn24, kq, kloadA_at A0_22 hML0, t25, t26, t27, v28, hH28, kloadA_at BY0_28 glY0, kloadA_at BW0_28 hWL0, e29, e30, kloadA_at BG0_28 glG0, q31, kn31, q32, kn32, List.length_cons, List.length_nil, Nat.zero_add, Nat.reduceAdd]
  try simp only [S.laws_FnExactParsed.n43, S.laws_FnExactParsed.g43_0, S.laws_FnExactParsed.g43_1, S.laws_FnExactParsed.g43_2, Option.bind_some, kr_mk, kxt_tup, List.getElem?_cons_zero, List.getElem?_cons_succ, kcond_bool, cond_true, cond_false, kun_not, Bool.not_true, Bool.not_false, kpick_bool, tr_bool, tr_un, kx_nrm, kx_ret, kb_nrm, kb_ret, kend_ret, kend_nrm, finN_bool, klenS_str, beq_self_eq_true, beq_false, Bool.false_eq_true, BEq.rfl, Bool.beq_eq_decide_eq, decide_true, decide_false, reduceCtorEq, kalloc_at, hbox0, kg1, klen_fzl, kloadA_at A0 hML0, sz', ksz, t1, t2, s3, v4, hH4, kloadA_at A0_4 hML0, t5, v6, hH6, t7, kloadA_at BX0_7 xl0, t8, v9, hH9, kloadA_at BG0_9 glG0, kloadA_at BW0_9 hWL0, e10, e11, kloadA_at BX0_9 xl0, kloadA_at A0_9 hML0, t12, e13, t14, e15, kloadA_at BX0_14 xl0, m16, m17, kn18, kloadA_at BG0_17 glG0, kloadA_at BW0_17 hWL0, e19, e20, m21, m22, kloadA_at BG0_22 glG0, q23, kn23, q24, kn24, kq, kloadA_at A0_22 hML0, t25, t26, t27, v28, hH28, kloadA_at BY0_28 glY0, kloadA_at BW0_28 hWL0, e29, e30, kloadA_at BG0_28 glG0, q31, kn31, q32, kn32, List.length_cons, List.length_nil, Nat.zero_add, Nat.reduceAdd]
  try simp only [S.laws_FnExactParsed.g43_3, S.laws_FnExactParsed.g43_4, S.laws_FnExactParsed.n42, S.laws_FnExactParsed.n16, Option.bind_some, kr_mk, kxt_tup, List.getElem?_cons_zero, List.getElem?_cons_succ, kcond_bool, cond_true, cond_false, kun_not, Bool.not_true, Bool.not_false, kpick_bool, tr_bool, tr_un, kx_nrm, kx_ret, kb_nrm, kb_ret, kend_ret, kend_nrm, finN_bool, klenS_str, beq_self_eq_true, beq_false, Bool.false_eq_true, BEq.rfl, Bool.beq_eq_decide_eq, decide_true, decide_false, reduceCtorEq, kalloc_at, hbox0, kg1, klen_fzl, kloadA_at A0 hML0, sz', ksz, t1, t2, s3, v4, hH4, kloadA_at A0_4 hML0, t5, v6, hH6, t7, kloadA_at BX0_7 xl0, t8, v9, hH9, kloadA_at BG0_9 glG0, kloadA_at BW0_9 hWL0, e10, e11, kloadA_at BX0_9 xl0, kloadA_at A0_9 hML0, t12, e13, t14, e15, kloadA_at BX0_14 xl0, m16, m17, kn18, kloadA_at BG0_17 glG0, kloadA_at BW0_17 hWL0, e19, e20, m21, m22, kloadA_at BG0_22 glG0, q23, kn23, q24, kn24, kq, kloadA_at A0_22 hML0, t25, t26, t27, v28, hH28, kloadA_at BY0_28 glY0, kloadA_at BW0_28 hWL0, e29, e30, kloadA_at BG0_28 glG0, q31, kn31, q32, kn32, List.length_cons, List.length_nil, Nat.zero_add, Nat.reduceAdd]
  try simp only [S.laws_FnExactParsed.n17, S.laws_FnExactParsed.n18, S.laws_FnExactParsed.n19, S.laws_FnExactParsed.n20, Option.bind_some, kr_mk, kxt_tup, List.getElem?_cons_zero, List.getElem?_cons_succ, kcond_bool, cond_true, cond_false, kun_not, Bool.not_true, Bool.not_false, kpick_bool, tr_bool, tr_un, kx_nrm, kx_ret, kb_nrm, kb_ret, kend_ret, kend_nrm, finN_bool, klenS_str, beq_self_eq_true, beq_false, Bool.false_eq_true, BEq.rfl, Bool.beq_eq_decide_eq, decide_true, decide_false, reduceCtorEq, kalloc_at, hbox0, kg1, klen_fzl, kloadA_at A0 hML0, sz', ksz, t1, t2, s3, v4, hH4, kloadA_at A0_4 hML0, t5, v6, hH6, t7, kloadA_at BX0_7 xl0, t8, v9, hH9, kloadA_at BG0_9 glG0, kloadA_at BW0_9 hWL0, e10, e11, kloadA_at BX0_9 xl0, kloadA_at A0_9 hML0, t12, e13, t14, e15, kloadA_at BX0_14 xl0, m16, m17, kn18, kloadA_at BG0_17 glG0, kloadA_at BW0_17 hWL0, e19, e20, m21, m22, kloadA_at BG0_22 glG0, q23, kn23, q24, kn24, kq, kloadA_at A0_22 hML0, t25, t26, t27, v28, hH28, kloadA_at BY0_28 glY0, kloadA_at BW0_28 hWL0, e29, e30, kloadA_at BG0_28 glG0, q31, kn31, q32, kn32, List.length_cons, List.length_nil, Nat.zero_add, Nat.reduceAdd]
  try simp only [S.laws_FnExactParsed.n21, S.laws_FnExactParsed.n22, S.laws_FnExactParsed.n23, S.laws_FnExactParsed.n24, Option.bind_some, kr_mk, kxt_tup, List.getElem?_cons_zero, List.getElem?_cons_succ, kcond_bool, cond_true, cond_false, kun_not, Bool.not_true, Bool.not_false, kpick_bool, tr_bool, tr_un, kx_nrm, kx_ret, kb_nrm, kb_ret, kend_ret, kend_nrm, finN_bool, klenS_str, beq_self_eq_true, beq_false, Bool.false_eq_true, BEq.rfl, Bool.beq_eq_decide_eq, decide_true, decide_false, reduceCtorEq, kalloc_at, hbox0, kg1, klen_fzl, kloadA_at A0 hML0, sz', ksz, t1, t2, s3, v4, hH4, kloadA_at A0_4 hML0, t5, v6, hH6, t7, kloadA_at BX0_7 xl0, t8, v9, hH9, kloadA_at BG0_9 glG0, kloadA_at BW0_9 hWL0, e10, e11, kloadA_at BX0_9 xl0, kloadA_at A0_9 hML0, t12, e13, t14, e15, kloadA_at BX0_14 xl0, m16, m17, kn18, kloadA_at BG0_17 glG0, kloadA_at BW0_17 hWL0, e19, e20, m21, m22, kloadA_at BG0_22 glG0, q23, kn23, q24, kn24, kq, kloadA_at A0_22 hML0, t25, t26, t27, v28, hH28, kloadA_at BY0_28 glY0, kloadA_at BW0_28 hWL0, e29, e30, kloadA_at BG0_28 glG0, q31, kn31, q32, kn32, List.length_cons, List.length_nil, Nat.zero_add, Nat.reduceAdd]
  try simp only [S.laws_FnExactParsed.n25, S.laws_FnExactParsed.n26, S.laws_FnExactParsed.n28, S.laws_FnExactParsed.n30, Option.bind_some, kr_mk, kxt_tup, List.getElem?_cons_zero, List.getElem?_cons_succ, kcond_bool, cond_true, cond_false, kun_not, Bool.not_true, Bool.not_false, kpick_bool, tr_bool, tr_un, kx_nrm, kx_ret, kb_nrm, kb_ret, kend_ret, kend_nrm, finN_bool, klenS_str, beq_self_eq_true, beq_false, Bool.false_eq_true, BEq.rfl, Bool.beq_eq_decide_eq, decide_true, decide_false, reduceCtorEq, kalloc_at, hbox0, kg1, klen_fzl, kloadA_at A0 hML0, sz', ksz, t1, t2, s3, v4, hH4, kloadA_at A0_4 hML0, t5, v6, hH6, t7, kloadA_at BX0_7 xl0, t8, v9, hH9, kloadA_at BG0_9 glG0, kloadA_at BW0_9 hWL0, e10, e11, kloadA_at BX0_9 xl0, kloadA_at A0_9 hML0, t12, e13, t14, e15, kloadA_at BX0_14 xl0, m16, m17, kn18, kloadA_at BG0_17 glG0, kloadA_at BW0_17 hWL0, e19, e20, m21, m22, kloadA_at BG0_22 glG0, q23, kn23, q24, kn24, kq, kloadA_at A0_22 hML0, t25, t26, t27, v28, hH28, kloadA_at BY0_28 glY0, kloadA_at BW0_28 hWL0, e29, e30, kloadA_at BG0_28 glG0, q31, kn31, q32, kn32, List.length_cons, List.length_nil, Nat.zero_add, Nat.reduceAdd]
  try simp only [S.laws_FnExactParsed.g30_0, S.laws_FnExactParsed.g30_1, S.laws_FnExactParsed.g30_2, S.laws_FnExactParsed.n29, Option.bind_some, kr_mk, kxt_tup, List.getElem?_cons_zero, List.getElem?_cons_succ, kcond_bool, cond_true, cond_false, kun_not, Bool.not_true, Bool.not_false, kpick_bool, tr_bool, tr_un, kx_nrm, kx_ret, kb_nrm, kb_ret, kend_ret, kend_nrm, finN_bool, klenS_str, beq_self_eq_true, beq_false, Bool.false_eq_true, BEq.rfl, Bool.beq_eq_decide_eq, decide_true, decide_false, reduceCtorEq, kalloc_at, hbox0, kg1, klen_fzl, kloadA_at A0 hML0, sz', ksz, t1, t2, s3, v4, hH4, kloadA_at A0_4 hML0, t5, v6, hH6, t7, kloadA_at BX0_7 xl0, t8, v9, hH9, kloadA_at BG0_9 glG0, kloadA_at BW0_9 hWL0, e10, e11, kloadA_at BX0_9 xl0, kloadA_at A0_9 hML0, t12, e13, t14, e15, kloadA_at BX0_14 xl0, m16, m17, kn18, kloadA_at BG0_17 glG0, kloadA_at BW0_17 hWL0, e19, e20, m21, m22, kloadA_at BG0_22 glG0, q23, kn23, q24, kn24, kq, kloadA_at A0_22 hML0, t25, t26, t27, v28, hH28, kloadA_at BY0_28 glY0, kloadA_at BW0_28 hWL0, e29, e30, kloadA_at BG0_28 glG0, q31, kn31, q32, kn32, List.length_cons, List.length_nil, Nat.zero_add, Nat.reduceAdd]
  try simp only [S.laws_FnExactParsed.n27, Option.bind_some, kr_mk, kxt_tup, List.getElem?_cons_zero, List.getElem?_cons_succ, kcond_bool, cond_true, cond_false, kun_not, Bool.not_true, Bool.not_false, kpick_bool, tr_bool, tr_un, kx_nrm, kx_ret, kb_nrm, kb_ret, kend_ret, kend_nrm, finN_bool, klenS_str, beq_self_eq_true, beq_false, Bool.false_eq_true, BEq.rfl, Bool.beq_eq_decide_eq, decide_true, decide_false, reduceCtorEq, kalloc_at, hbox0, kg1, klen_fzl, kloadA_at A0 hML0, sz', ksz, t1, t2, s3, v4, hH4, kloadA_at A0_4 hML0, t5, v6, hH6, t7, kloadA_at BX0_7 xl0, t8, v9, hH9, kloadA_at BG0_9 glG0, kloadA_at BW0_9 hWL0, e10, e11, kloadA_at BX0_9 xl0, kloadA_at A0_9 hML0, t12, e13, t14, e15, kloadA_at BX0_14 xl0, m16, m17, kn18, kloadA_at BG0_17 glG0, kloadA_at BW0_17 hWL0, e19, e20, m21, m22, kloadA_at BG0_22 glG0, q23, kn23, q24, kn24, kq, kloadA_at A0_22 hML0, t25, t26, t27, v28, hH28, kloadA_at BY0_28 glY0, kloadA_at BW0_28 hWL0, e29, e30, kloadA_at BG0_28 glG0, q31, kn31, q32, kn32, List.length_cons, List.length_nil, Nat.zero_add, Nat.reduceAdd]
end Go.Proofs.Ytlbnioapepelnaa.G

namespace Go.Proofs.Ytlbnioapepelnaa.G
open Go.RowKit Go.ChangeShapes Go.WideShapes Go.ChangeAt
set_option linter.unusedVariables false

theorem frz_true {d : Nat} {h : Heap} {v : GV} {r : List Nat} (e : frz d h v = some (.bool true, r)) : v = .bool true := by
  cases d with
  | zero => cases e
  | succ d =>
    cases v with
    | bool b => cases e; rfl
    | sl i off len cap es =>
      simp only [frz, Option.bind_eq_bind, Option.bind_eq_some_iff] at e
      obtain ⟨cs, _, xs, _, e⟩ := e
      split at e
      · cases len <;> cases e
      · cases e
    | fz t n es cells => cases n <;> cases t <;> cases e
    | agg cs => simp only [frz, Option.bind_eq_bind, Option.bind_eq_some_iff] at e; obtain ⟨xs, _, e⟩ := e; cases e
    | tup cs => simp only [frz, Option.bind_eq_bind, Option.bind_eq_some_iff] at e; obtain ⟨xs, _, e⟩ := e; cases e
    | _ => cases e

theorem law_N {P : Program} {C : Cfg} (hM : P.follows .mixedOrders = true) (hN : NameOk P) (hX : XSound P C) {f : FuncId} {args : List GV} {us : List Value} {W : World} (hx : C.ext f = none) (e : nω P C f args = some (.bool true))
    (hgl : GL W (fun c => c < W.heap.size)) (hv : VRs W E0 (fun _ => False) args (fun c => c < W.heap.size) us) : Calls P f us.toArray W fun e w' => e = .returned (.bool true) ∧ Below W.heap.size W w' := by
  unfold nω at e
  simp only [hx] at e
  obtain ⟨⟨v, h'⟩, h1, h2⟩ := Option.bind_eq_some_iff.1 e
  obtain ⟨⟨v', r⟩, h3, h4⟩ := Option.map_eq_some_iff.1 h2
  simp only at h4 h3
  subst h4
  have := frz_true h3
  subst this
  obtain ⟨k, lg, h5⟩ := kω_some.1 h1
  exact law_calls hM hN hX (k := k) (by rw [h5]; rfl) (fun _ h => h) hgl (VRs_mono (w := W) ⟨fun _ _ h => h, fun _ _ _ h => h, fun _ h => h.elim⟩ _ _ _ _ (fun _ h => .inl h) (fun _ _ => rfl) hv)

theorem one_cell' {v u : Value} (h : v.cells.toList = [u]) (hv : ∀ cs, v = .agg cs → False) : v = u := by
  cases v with
  | agg cs => exact (hv cs rfl).elim
  | _ => simpa [Value.cells] using h

/-- A value of one cell, told. -/
theorem told_one {W : World} {g : GV} {v : Value} (h : Told W [g] v.cells.toList) (hv : ∀ cs, v = .agg cs → False) : VR W E0 (fun _ => False) g (fun c => c < W.heap.size) v := by
  obtain ⟨u, us, h1, h2, h3⟩ := h
  simp only [VRsi] at h3
  subst h3
  rw [one_cell' h1 hv]
  exact h2
theorem told_agg {W : World} {cs : List GV} {v : Value} (h : Told W cs v.cells.toList) (hv : ∃ us, v = .agg us) : VR W E0 (fun _ => False) (.agg cs) (fun c => c < W.heap.size) v := by
  obtain ⟨us, rfl⟩ := hv
  exact ⟨us, rfl, h⟩

/-- A slice, the size of its elements told. -/
theorem tells_sl {α : Type} {P : Program} {t e es : Nat} {mk : α → List GV} {I : α → Prop} (ht : P.underlying t = some (.slice e)) (hs : P.cellsOf t = 1) (hes : P.cellsOf e = es) (he : Tells P e mk I) : Tells P t (fun xs : List α => [fzl true es mk xs]) (inSl I) := by
  subst hes
  exact tells_slice ht hs he

theorem tells_st {α : Type} {P : Program} {t : TypeId} {fs : Array Field} {l : List Field} {o sz : Nat} {mk : α → List GV} {I : α → Prop} (ht : P.underlying t = some (.struct fs)) (hl : fs.toList = l) (h : TellsAt P l o sz mk I) (ho : o = 0) (hs : P.cellsOf t = sz) : Tells P t mk I := by
  subst hl; subst ho; subst hs
  exact tells_struct ht h

/-- What the arguments read as before the call they read as behind it, if nothing that was there has changed. -/
theorem below_allT {H : Type} {enc : TypeId × Value → H} {P : Program} (hl : laidOutB P = true) {W W' : World} (hb : Below W.heap.size W W') :
    ∀ {ts : List TypeId} {vs : List Value} {ds : List (DataW H)} {ps : List MemPlace}, (∀ t ∈ ts, P.readableRec t = true ∧ t < P.types.size) →
      DataW.TrodAll enc P W 0 (fun _ => true) true ts vs ds ps → DataW.TrodAll enc P W' 0 (fun b => decide (b < W.heap.size)) true ts vs ds ps
  | [], [], [], _, _, h => h
  | t :: ts, v :: vs, d :: ds, ps, hr, h => by
    obtain ⟨p, q, h1, h2, rfl⟩ := h
    obtain ⟨a, b⟩ := hr t (by simp)
    exact ⟨p, q, Below.trod hl a b h1 hb (by obtain ⟨m, hm⟩ := h1; exact DataW.trod_lt m _ _ _ hm), below_allT hl hb (fun t ht => hr t (by simp [ht])) h2, rfl⟩
  | [], [], _ :: _, _, _, h => h.elim
  | [], _ :: _, _, _, _, h => h.elim
  | _ :: _, [], _, _, _, h => h.elim
  | _ :: _, _ :: _, [], _, _, h => h.elim


end Go.Proofs.Ytlbnioapepelnaa.G
