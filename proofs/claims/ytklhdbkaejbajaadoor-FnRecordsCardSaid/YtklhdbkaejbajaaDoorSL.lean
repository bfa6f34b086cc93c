/- What these functions do, told for open values, out of the machine with continuations. Printed by a program of this session. -/
import Derived.Test.YtklhdbkaejbajaaDoorSD
import Derived.KernelRfl
namespace Go.Proofs.YtklhdbkaejbajaaDoor.G
open Go.RowKit
set_option linter.unusedVariables false
set_option maxRecDepth 100000
noncomputable section
variable {R : Type} (k : Nat)
/-! laws_FnRecords -/
namespace S.laws_FnRecords
noncomputable def c0 : Code := bodyOf Tryd.f10
noncomputable def c1 : Code := cR c0
noncomputable def c2 : Code := cR c1
noncomputable def c3 : Code := cR c2
noncomputable def c4 : Code := cR c3
noncomputable def c5 : Code := cR c4
noncomputable def c6 : Code := cR c5
noncomputable def c7 : Code := cR c6
noncomputable def c8 : Code := cR c7
noncomputable def c9 : Code := cR c8
noncomputable def c10 : Code := cR c9
noncomputable def c11 : Code := cR c10
noncomputable def c12 : Code := cR c11
noncomputable def c13 : Code := cR c12
noncomputable def c14 : Code := cR c13
noncomputable def c15 : Code := cR c14
@[simp] def n15 {R : Type} (k : Nat) (G : KT1 R) (v2 : GV) (h : Heap) : Option R := G .ret v2 h
theorem n15_eq (G : KT1 R) (σ : GS) (h : Heap) : KC k 154 c15 σ h (fun x σ h => G x (σ 2) h) = n15 k G (σ 2) h := by kernel_rfl
noncomputable def c16 : Code := cL c14
noncomputable def o16 : Array Oper := cO c16
@[simp] def g16_4 {R : Type} (k : Nat) (G : KT1 R) (v149 v152 : GV) (h : Heap) : Option R := (kpick v149 v152 (.bool false)).bind fun v153 => G .nrm v153 h
theorem g16_4_eq (G : KT1 R) (σ : GS) (h : Heap) : kgroups PP cfg NN HH 154 o16 [(none, [14, 15])] σ h (fun σ h => G .nrm (σ 2) h) = g16_4 k G (σ 149) (σ 152) h := by kernel_rfl
@[simp] def g16_3 (G : KT1 R) (v4 v17 v149 : GV) (h : Heap) : Option R := bif tr true v149 then (kN NN fn.laws_begins [v4, v17] h).bind fun v152 => g16_4 k G v149 v152 h else g16_4 k G v149 .un h
theorem g16_3_eq (G : KT1 R) (σ : GS) (h : Heap) : kgroups PP cfg NN HH 154 o16 [(some (10, true), [11, 12, 13]), (none, [14, 15])] σ h (fun σ h => G .nrm (σ 2) h) = g16_3 k G (σ 4) (σ 17) (σ 149) h := (kgroups_cons (fun σ h => g16_4_eq k G σ h)).trans (by kernel_rfl)
@[simp] def g16_2 (G : KT1 R) (v4 v17 v144 v147 : GV) (h : Heap) : Option R := (kpick v144 v147 (.bool false)).bind fun v148 => g16_3 k G v4 v17 v148 h
theorem g16_2_eq (G : KT1 R) (σ : GS) (h : Heap) : kgroups PP cfg NN HH 154 o16 [(none, [9, 10]), (some (10, true), [11, 12, 13]), (none, [14, 15])] σ h (fun σ h => G .nrm (σ 2) h) = g16_2 k G (σ 4) (σ 17) (σ 144) (σ 147) h := (kgroups_cons (fun σ h => g16_3_eq k G σ h)).trans (by kernel_rfl)
@[simp] def g16_1 (G : KT1 R) (v4 v5 v17 v18 v144 : GV) (h : Heap) : Option R := bif tr true v144 then (kbin .leq v18 v5).bind fun v147 => g16_2 k G v4 v17 v144 v147 h else g16_2 k G v4 v17 v144 .un h
theorem g16_1_eq (G : KT1 R) (σ : GS) (h : Heap) : kgroups PP cfg NN HH 154 o16 [(some (5, true), [6, 7, 8]), (none, [9, 10]), (some (10, true), [11, 12, 13]), (none, [14, 15])] σ h (fun σ h => G .nrm (σ 2) h) = g16_1 k G (σ 4) (σ 5) (σ 17) (σ 18) (σ 144) h := (kgroups_cons (fun σ h => g16_2_eq k G σ h)).trans (by kernel_rfl)
@[simp] def g16_0 (G : KT1 R) (v3 v4 v5 v15 v17 v18 : GV) (h : Heap) : Option R := (kslS v3 none (some v5) none).bind fun v142 => (kbin .eql v15 v142).bind fun v143 => g16_1 k G v4 v5 v17 v18 v143 h
theorem g16_0_eq (G : KT1 R) (σ : GS) (h : Heap) : kgroups PP cfg NN HH 154 o16 [(none, [0, 1, 2, 3, 4, 5]), (some (5, true), [6, 7, 8]), (none, [9, 10]), (some (10, true), [11, 12, 13]), (none, [14, 15])] σ h (fun σ h => G .nrm (σ 2) h) = g16_0 k G (σ 3) (σ 4) (σ 5) (σ 15) (σ 17) (σ 18) h := (kgroups_cons (fun σ h => g16_1_eq k G σ h)).trans (by kernel_rfl)
@[simp] def n16 (G : KT1 R) (v3 v4 v5 v15 v17 v18 : GV) (h : Heap) : Option R := g16_0 k G v3 v4 v5 v15 v17 v18 h
theorem n16_eq (G : KT1 R) (σ : GS) (h : Heap) : KC k 154 c16 σ h (fun x σ h => G x (σ 2) h) = n16 k G (σ 3) (σ 4) (σ 5) (σ 15) (σ 17) (σ 18) h := (kregion_eq (id := 21) (draw := false) (ops := o16) (gs := [(none, [0, 1, 2, 3, 4, 5]), (some (5, true), [6, 7, 8]), (none, [9, 10]), (some (10, true), [11, 12, 13]), (none, [14, 15])]) (by kernel_rfl) (by kernel_rfl) (by kernel_rfl)).trans (g16_0_eq k G σ h)
@[simp] def n14 (G : KT1 R) (v3 v4 v5 v15 v17 v18 : GV) (h : Heap) : Option R := n16 k (fun x v2 h => kx x (n15 k G v2 h) (G x v2 h)) v3 v4 v5 v15 v17 v18 h
theorem n14_eq (G : KT1 R) (σ : GS) (h : Heap) : KC k 154 c14 σ h (fun x σ h => G x (σ 2) h) = n14 k G (σ 3) (σ 4) (σ 5) (σ 15) (σ 17) (σ 18) h := (kseq (b := c15) rfl (fun σ h => n15_eq k G σ h)).trans (n16_eq k (fun x v2 h => kx x (n15 k G v2 h) (G x v2 h)) σ h)
noncomputable def c17 : Code := cL c13
noncomputable def c18 : Code := cR c17
@[simp] def n18 {R : Type} (k : Nat) (G : KT7 R) (v2 v3 v4 v5 v15 v17 v18 v138 : GV) (h : Heap) : Option R := kcond v138 (G .ret (.bool false) v3 v4 v5 v15 v17 v18 h) (G .nrm v2 v3 v4 v5 v15 v17 v18 h)
theorem n18_eq (G : KT7 R) (σ : GS) (h : Heap) : KC k 154 c18 σ h (fun x σ h => G x (σ 2) (σ 3) (σ 4) (σ 5) (σ 15) (σ 17) (σ 18) h) = n18 k G (σ 2) (σ 3) (σ 4) (σ 5) (σ 15) (σ 17) (σ 18) (σ 138) h := by kernel_rfl
noncomputable def c19 : Code := cL c17
noncomputable def o19 : Array Oper := cO c19
@[simp] def g19_6 {R : Type} (k : Nat) (G : KT8 R) (v2 v3 v4 v5 v15 v17 v18 v118 v137 : GV) (h : Heap) : Option R := (kpick v118 v137 (.bool false)).bind fun v138 => G .nrm v2 v3 v4 v5 v15 v17 v18 v138 h
theorem g19_6_eq (G : KT8 R) (σ : GS) (h : Heap) : kgroups PP cfg NN HH 154 o19 [(none, [23])] σ h (fun σ h => G .nrm (σ 2) (σ 3) (σ 4) (σ 5) (σ 15) (σ 17) (σ 18) (σ 138) h) = g19_6 k G (σ 2) (σ 3) (σ 4) (σ 5) (σ 15) (σ 17) (σ 18) (σ 118) (σ 137) h := by kernel_rfl
@[simp] def g19_5 (G : KT8 R) (v2 v3 v4 v5 v15 v17 v18 v118 v129 v136 : GV) (h : Heap) : Option R := bif tr true v118 then (kpick v129 (.bool true) v136).bind fun v137 => g19_6 k G v2 v3 v4 v5 v15 v17 v18 v118 v137 h else g19_6 k G v2 v3 v4 v5 v15 v17 v18 v118 .un h
theorem g19_5_eq (G : KT8 R) (σ : GS) (h : Heap) : kgroups PP cfg NN HH 154 o19 [(some (3, true), [22]), (none, [23])] σ h (fun σ h => G .nrm (σ 2) (σ 3) (σ 4) (σ 5) (σ 15) (σ 17) (σ 18) (σ 138) h) = g19_5 k G (σ 2) (σ 3) (σ 4) (σ 5) (σ 15) (σ 17) (σ 18) (σ 118) (σ 129) (σ 136) h := (kgroups_cons (fun σ h => g19_6_eq k G σ h)).trans (by kernel_rfl)
@[simp] def g19_4 (G : KT8 R) (v2 v3 v4 v5 v6 v15 v17 v18 v20 v118 v129 : GV) (h : Heap) : Option R := bif tr false v129 then (kN NN fn.spec_Record [(.str { data := #[102, 105, 114, 115, 116] })] h).bind fun v131 => (kN NN fn.spec_Record [v6] h).bind fun v133 => (kbin .add v131 v133).bind fun v134 => (klenS v134).bind fun v135 => (kbin .neq v20 v135).bind fun v136 => g19_5 k G v2 v3 v4 v5 v15 v17 v18 v118 v129 v136 h else g19_5 k G v2 v3 v4 v5 v15 v17 v18 v118 v129 .un h
theorem g19_4_eq (G : KT8 R) (σ : GS) (h : Heap) : kgroups PP cfg NN HH 154 o19 [(some (14, false), [15, 16, 17, 18, 19, 20, 21]), (some (3, true), [22]), (none, [23])] σ h (fun σ h => G .nrm (σ 2) (σ 3) (σ 4) (σ 5) (σ 15) (σ 17) (σ 18) (σ 138) h) = g19_4 k G (σ 2) (σ 3) (σ 4) (σ 5) (σ 6) (σ 15) (σ 17) (σ 18) (σ 20) (σ 118) (σ 129) h := (kgroups_cons (fun σ h => g19_5_eq k G σ h)).trans (by kernel_rfl)
@[simp] def g19_3 (G : KT8 R) (v2 v3 v4 v5 v6 v15 v17 v18 v20 v118 v122 v127 : GV) (h : Heap) : Option R := bif tr true v118 then (kpick v122 (.bool true) v127).bind fun v128 => g19_4 k G v2 v3 v4 v5 v6 v15 v17 v18 v20 v118 v128 h else g19_4 k G v2 v3 v4 v5 v6 v15 v17 v18 v20 v118 .un h
theorem g19_3_eq (G : KT8 R) (σ : GS) (h : Heap) : kgroups PP cfg NN HH 154 o19 [(some (3, true), [13, 14]), (some (14, false), [15, 16, 17, 18, 19, 20, 21]), (some (3, true), [22]), (none, [23])] σ h (fun σ h => G .nrm (σ 2) (σ 3) (σ 4) (σ 5) (σ 15) (σ 17) (σ 18) (σ 138) h) = g19_3 k G (σ 2) (σ 3) (σ 4) (σ 5) (σ 6) (σ 15) (σ 17) (σ 18) (σ 20) (σ 118) (σ 122) (σ 127) h := (kgroups_cons (fun σ h => g19_4_eq k G σ h)).trans (by kernel_rfl)
@[simp] def g19_2 (G : KT8 R) (v2 v3 v4 v5 v6 v15 v17 v18 v19 v20 v118 v122 : GV) (h : Heap) : Option R := bif tr false v122 then (kia 1 v19 (.int .i64 1)).bind fun v124 => (kload1 h v124).bind fun v125 => (kbin .neq v125 v6).bind fun v127 => g19_3 k G v2 v3 v4 v5 v6 v15 v17 v18 v20 v118 v122 v127 h else g19_3 k G v2 v3 v4 v5 v6 v15 v17 v18 v20 v118 v122 .un h
theorem g19_2_eq (G : KT8 R) (σ : GS) (h : Heap) : kgroups PP cfg NN HH 154 o19 [(some (7, false), [8, 9, 10, 11, 12]), (some (3, true), [13, 14]), (some (14, false), [15, 16, 17, 18, 19, 20, 21]), (some (3, true), [22]), (none, [23])] σ h (fun σ h => G .nrm (σ 2) (σ 3) (σ 4) (σ 5) (σ 15) (σ 17) (σ 18) (σ 138) h) = g19_2 k G (σ 2) (σ 3) (σ 4) (σ 5) (σ 6) (σ 15) (σ 17) (σ 18) (σ 19) (σ 20) (σ 118) (σ 122) h := (kgroups_cons (fun σ h => g19_3_eq k G σ h)).trans (by kernel_rfl)
@[simp] def g19_1 (G : KT8 R) (v2 v3 v4 v5 v6 v15 v17 v18 v19 v20 v118 : GV) (h : Heap) : Option R := bif tr true v118 then (klen v19).bind fun v120 => (kbin .neq v120 (.int .i64 2)).bind fun v121 => g19_2 k G v2 v3 v4 v5 v6 v15 v17 v18 v19 v20 v118 v121 h else g19_2 k G v2 v3 v4 v5 v6 v15 v17 v18 v19 v20 v118 .un h
theorem g19_1_eq (G : KT8 R) (σ : GS) (h : Heap) : kgroups PP cfg NN HH 154 o19 [(some (3, true), [4, 5, 6, 7]), (some (7, false), [8, 9, 10, 11, 12]), (some (3, true), [13, 14]), (some (14, false), [15, 16, 17, 18, 19, 20, 21]), (some (3, true), [22]), (none, [23])] σ h (fun σ h => G .nrm (σ 2) (σ 3) (σ 4) (σ 5) (σ 15) (σ 17) (σ 18) (σ 138) h) = g19_1 k G (σ 2) (σ 3) (σ 4) (σ 5) (σ 6) (σ 15) (σ 17) (σ 18) (σ 19) (σ 20) (σ 118) h := (kgroups_cons (fun σ h => g19_2_eq k G σ h)).trans (by kernel_rfl)
@[simp] def g19_0 (G : KT8 R) (v2 v3 v4 v5 v6 v15 v17 v18 v19 v20 : GV) (h : Heap) : Option R := (klenS v6).bind fun v116 => (kbin .leq v116 (.int .i64 5000)).bind fun v117 => g19_1 k G v2 v3 v4 v5 v6 v15 v17 v18 v19 v20 v117 h
theorem g19_0_eq (G : KT8 R) (σ : GS) (h : Heap) : kgroups PP cfg NN HH 154 o19 [(none, [0, 1, 2, 3]), (some (3, true), [4, 5, 6, 7]), (some (7, false), [8, 9, 10, 11, 12]), (some (3, true), [13, 14]), (some (14, false), [15, 16, 17, 18, 19, 20, 21]), (some (3, true), [22]), (none, [23])] σ h (fun σ h => G .nrm (σ 2) (σ 3) (σ 4) (σ 5) (σ 15) (σ 17) (σ 18) (σ 138) h) = g19_0 k G (σ 2) (σ 3) (σ 4) (σ 5) (σ 6) (σ 15) (σ 17) (σ 18) (σ 19) (σ 20) h := (kgroups_cons (fun σ h => g19_1_eq k G σ h)).trans (by kernel_rfl)
@[simp] def n19 (G : KT8 R) (v2 v3 v4 v5 v6 v15 v17 v18 v19 v20 : GV) (h : Heap) : Option R := g19_0 k G v2 v3 v4 v5 v6 v15 v17 v18 v19 v20 h
theorem n19_eq (G : KT8 R) (σ : GS) (h : Heap) : KC k 154 c19 σ h (fun x σ h => G x (σ 2) (σ 3) (σ 4) (σ 5) (σ 15) (σ 17) (σ 18) (σ 138) h) = n19 k G (σ 2) (σ 3) (σ 4) (σ 5) (σ 6) (σ 15) (σ 17) (σ 18) (σ 19) (σ 20) h := (kregion_eq (id := 19) (draw := false) (ops := o19) (gs := [(none, [0, 1, 2, 3]), (some (3, true), [4, 5, 6, 7]), (some (7, false), [8, 9, 10, 11, 12]), (some (3, true), [13, 14]), (some (14, false), [15, 16, 17, 18, 19, 20, 21]), (some (3, true), [22]), (none, [23])]) (by kernel_rfl) (by kernel_rfl) (by kernel_rfl)).trans (g19_0_eq k G σ h)
@[simp] def n17 (G : KT7 R) (v2 v3 v4 v5 v6 v15 v17 v18 v19 v20 : GV) (h : Heap) : Option R := n19 k (fun x v2 v3 v4 v5 v15 v17 v18 v138 h => kx x (n18 k G v2 v3 v4 v5 v15 v17 v18 v138 h) (G x v2 v3 v4 v5 v15 v17 v18 h)) v2 v3 v4 v5 v6 v15 v17 v18 v19 v20 h
theorem n17_eq (G : KT7 R) (σ : GS) (h : Heap) : KC k 154 c17 σ h (fun x σ h => G x (σ 2) (σ 3) (σ 4) (σ 5) (σ 15) (σ 17) (σ 18) h) = n17 k G (σ 2) (σ 3) (σ 4) (σ 5) (σ 6) (σ 15) (σ 17) (σ 18) (σ 19) (σ 20) h := (kseq (b := c18) rfl (fun σ h => n18_eq k G σ h)).trans (n19_eq k (fun x v2 v3 v4 v5 v15 v17 v18 v138 h => kx x (n18 k G v2 v3 v4 v5 v15 v17 v18 v138 h) (G x v2 v3 v4 v5 v15 v17 v18 h)) σ h)
@[simp] def n13 (G : KT1 R) (v2 v3 v4 v5 v6 v15 v17 v18 v19 v20 : GV) (h : Heap) : Option R := n17 k (fun x v2 v3 v4 v5 v15 v17 v18 h => kx x (n14 k G v3 v4 v5 v15 v17 v18 h) (G x v2 h)) v2 v3 v4 v5 v6 v15 v17 v18 v19 v20 h
theorem n13_eq (G : KT1 R) (σ : GS) (h : Heap) : KC k 154 c13 σ h (fun x σ h => G x (σ 2) h) = n13 k G (σ 2) (σ 3) (σ 4) (σ 5) (σ 6) (σ 15) (σ 17) (σ 18) (σ 19) (σ 20) h := (kseq (b := c14) rfl (fun σ h => n14_eq k G σ h)).trans (n17_eq k (fun x v2 v3 v4 v5 v15 v17 v18 h => kx x (n14 k G v3 v4 v5 v15 v17 v18 h) (G x v2 h)) σ h)
noncomputable def c20 : Code := cL c12
@[simp] def n12 (G : KT1 R) (v2 v3 v4 v5 v6 v15 v17 v18 : GV) (h : Heap) : Option R := (kN NN fn.spec_Record [(.str { data := #[102, 105, 114, 115, 116] })] h).bind fun v107 => (kN NN fn.spec_Record [v6] h).bind fun v109 => (kbin .add v107 v109).bind fun v110 => (kbin .add v110 (.str { data := #[120] })).bind fun v111 => (kF false HH fn.impl_Records [v111] h).bind fun r => kr r fun v112 h => (kxt 0 v112).bind fun v113 => (kxt 1 v112).bind fun v114 => n13 k G v2 v3 v4 v5 v6 v15 v17 v18 v113 v114 h
theorem n12_eq (G : KT1 R) (σ : GS) (h : Heap) : KC k 154 c12 σ h (fun x σ h => G x (σ 2) h) = n12 k G (σ 2) (σ 3) (σ 4) (σ 5) (σ 6) (σ 15) (σ 17) (σ 18) h := (kseq (a := c20) (b := c13) rfl (fun σ h => n13_eq k G σ h)).trans (by kernel_rfl)
noncomputable def c21 : Code := cL c11
@[simp] def n11 (G : KT1 R) (v0 v2 v3 v4 v5 v6 v15 : GV) (h : Heap) : Option R := (kbin .add v5 (.int .i64 1)).bind fun v100 => (kN NN fn.laws_pick [v0, (.int .i64 1), v100] h).bind fun v101 => (kN NN fn.impl_Torn [v3, v101, (.str { data := #[] }), (.int .i64 0)] h).bind fun v102 => (kF false HH fn.impl_Records [v102] h).bind fun r => kr r fun v103 h => (kxt 0 v103).bind fun v104 => (kxt 1 v103).bind fun v105 => n12 k G v2 v3 v4 v5 v6 v15 v104 v105 h
theorem n11_eq (G : KT1 R) (σ : GS) (h : Heap) : KC k 154 c11 σ h (fun x σ h => G x (σ 2) h) = n11 k G (σ 0) (σ 2) (σ 3) (σ 4) (σ 5) (σ 6) (σ 15) h := (kseq (a := c21) (b := c12) rfl (fun σ h => n12_eq k G σ h)).trans (by kernel_rfl)
noncomputable def c22 : Code := cL c10
noncomputable def c23 : Code := cR c22
noncomputable def c24 : Code := cL c23
noncomputable def c25 : Code := cL c24
noncomputable def c26 : Code := cR c25
noncomputable def c27 : Code := cR c26
@[simp] def n27 {R : Type} (k : Nat) (G : KT8 R) (v0 v2 v3 v4 v5 v6 v15 v16 : GV) (h : Heap) : Option R := (kbin .add v16 (.int .i64 1)).bind fun v88 => G .nrm v0 v2 v3 v4 v5 v6 v15 v88 h
theorem n27_eq (G : KT8 R) (σ : GS) (h : Heap) : KC k 154 c27 σ h (fun x σ h => G x (σ 0) (σ 2) (σ 3) (σ 4) (σ 5) (σ 6) (σ 15) (σ 16) h) = n27 k G (σ 0) (σ 2) (σ 3) (σ 4) (σ 5) (σ 6) (σ 15) (σ 16) h := by kernel_rfl
noncomputable def c28 : Code := cL c26
noncomputable def c29 : Code := cL c28
@[simp] def n29 {R : Type} (k : Nat) (G : KT8 R) (v0 v2 v3 v4 v5 v6 v15 v16 : GV) (h : Heap) : Option R := (kia 1 v4 v16).bind fun v92 => (kload1 h v92).bind fun v93 => (kN NN fn.spec_Record [v93] h).bind fun v94 => (kbin .add v15 v94).bind fun v95 => G .nrm v0 v2 v3 v4 v5 v6 v95 v16 h
theorem n29_eq (G : KT8 R) (σ : GS) (h : Heap) : KC k 154 c29 σ h (fun x σ h => G x (σ 0) (σ 2) (σ 3) (σ 4) (σ 5) (σ 6) (σ 15) (σ 16) h) = n29 k G (σ 0) (σ 2) (σ 3) (σ 4) (σ 5) (σ 6) (σ 15) (σ 16) h := by kernel_rfl
@[simp] def n28 (G : KT8 R) (v0 v2 v3 v4 v5 v6 v15 v16 : GV) (h : Heap) : Option R := n29 k (fun x v0 v2 v3 v4 v5 v6 v15 v16 h => kb 1 x fun x => G x v0 v2 v3 v4 v5 v6 v15 v16 h) v0 v2 v3 v4 v5 v6 v15 v16 h
theorem n28_eq (G : KT8 R) (σ : GS) (h : Heap) : KC k 154 c28 σ h (fun x σ h => G x (σ 0) (σ 2) (σ 3) (σ 4) (σ 5) (σ 6) (σ 15) (σ 16) h) = n28 k G (σ 0) (σ 2) (σ 3) (σ 4) (σ 5) (σ 6) (σ 15) (σ 16) h := (kblock_eq (a := c29) rfl).trans (n29_eq k (fun x v0 v2 v3 v4 v5 v6 v15 v16 h => kb 1 x fun x => G x v0 v2 v3 v4 v5 v6 v15 v16 h) σ h)
@[simp] def n26 (G : KT8 R) (v0 v2 v3 v4 v5 v6 v15 v16 : GV) (h : Heap) : Option R := n28 k (fun x v0 v2 v3 v4 v5 v6 v15 v16 h => kx x (n27 k G v0 v2 v3 v4 v5 v6 v15 v16 h) (G x v0 v2 v3 v4 v5 v6 v15 v16 h)) v0 v2 v3 v4 v5 v6 v15 v16 h
theorem n26_eq (G : KT8 R) (σ : GS) (h : Heap) : KC k 154 c26 σ h (fun x σ h => G x (σ 0) (σ 2) (σ 3) (σ 4) (σ 5) (σ 6) (σ 15) (σ 16) h) = n26 k G (σ 0) (σ 2) (σ 3) (σ 4) (σ 5) (σ 6) (σ 15) (σ 16) h := (kseq (b := c27) rfl (fun σ h => n27_eq k G σ h)).trans (n28_eq k (fun x v0 v2 v3 v4 v5 v6 v15 v16 h => kx x (n27 k G v0 v2 v3 v4 v5 v6 v15 v16 h) (G x v0 v2 v3 v4 v5 v6 v15 v16 h)) σ h)
noncomputable def c30 : Code := cL c25
@[simp] def n25 (G : KT8 R) (v0 v2 v3 v4 v5 v6 v15 v16 : GV) (h : Heap) : Option R := (klen v4).bind fun v85 => (kbin .lss v16 v85).bind fun v86 => kcond v86 (n26 k G v0 v2 v3 v4 v5 v6 v15 v16 h) (G (.ext 0) v0 v2 v3 v4 v5 v6 v15 v16 h)
theorem n25_eq (G : KT8 R) (σ : GS) (h : Heap) : KC k 154 c25 σ h (fun x σ h => G x (σ 0) (σ 2) (σ 3) (σ 4) (σ 5) (σ 6) (σ 15) (σ 16) h) = n25 k G (σ 0) (σ 2) (σ 3) (σ 4) (σ 5) (σ 6) (σ 15) (σ 16) h := (kseq (a := c30) (b := c26) rfl (fun σ h => n26_eq k G σ h)).trans (by kernel_rfl)
def l24 {R : Type} (k : Nat) (G : KT7 R) : Nat → GV → GV → GV → GV → GV → GV → GV → GV → Heap → Option R
  | 0, _, _, _, _, _, _, _, _, _ => none
  | r + 1, v0, v2, v3, v4, v5, v6, v15, v16, h => n25 k (fun x v0 v2 v3 v4 v5 v6 v15 v16 h => kx x (l24 k G r v0 v2 v3 v4 v5 v6 v15 v16 h) (G x v0 v2 v3 v4 v5 v6 v15 h)) v0 v2 v3 v4 v5 v6 v15 v16 h
theorem l24_eq {R : Type} (k : Nat) (G : KT7 R) : ∀ (r : Nat) (σ : GS) (h : Heap), kloop (fun σ h K => KC k 154 c25 σ h K) r σ h (fun x σ h => G x (σ 0) (σ 2) (σ 3) (σ 4) (σ 5) (σ 6) (σ 15) h) = l24 k G r (σ 0) (σ 2) (σ 3) (σ 4) (σ 5) (σ 6) (σ 15) (σ 16) h
  | 0, _, _ => rfl
  | r + 1, σ, h => (kloop_eq (fun σ h => l24_eq k G r σ h)).trans (n25_eq k (fun x v0 v2 v3 v4 v5 v6 v15 v16 h => kx x (l24 k G r v0 v2 v3 v4 v5 v6 v15 v16 h) (G x v0 v2 v3 v4 v5 v6 v15 h)) σ h)
@[simp] def n24 (G : KT7 R) (v0 v2 v3 v4 v5 v6 v15 v16 : GV) (h : Heap) : Option R := l24 k G k v0 v2 v3 v4 v5 v6 v15 v16 h
theorem n24_eq (G : KT7 R) (σ : GS) (h : Heap) : KC k 154 c24 σ h (fun x σ h => G x (σ 0) (σ 2) (σ 3) (σ 4) (σ 5) (σ 6) (σ 15) h) = n24 k G (σ 0) (σ 2) (σ 3) (σ 4) (σ 5) (σ 6) (σ 15) (σ 16) h := (kloopc_eq (a := c25) rfl).trans (l24_eq k G k σ h)
@[simp] def n23 (G : KT7 R) (v0 v2 v3 v4 v5 v6 v15 v16 : GV) (h : Heap) : Option R := n24 k (fun x v0 v2 v3 v4 v5 v6 v15 h => kb 0 x fun x => G x v0 v2 v3 v4 v5 v6 v15 h) v0 v2 v3 v4 v5 v6 v15 v16 h
theorem n23_eq (G : KT7 R) (σ : GS) (h : Heap) : KC k 154 c23 σ h (fun x σ h => G x (σ 0) (σ 2) (σ 3) (σ 4) (σ 5) (σ 6) (σ 15) h) = n23 k G (σ 0) (σ 2) (σ 3) (σ 4) (σ 5) (σ 6) (σ 15) (σ 16) h := (kblock_eq (a := c24) rfl).trans (n24_eq k (fun x v0 v2 v3 v4 v5 v6 v15 h => kb 0 x fun x => G x v0 v2 v3 v4 v5 v6 v15 h) σ h)
noncomputable def c31 : Code := cL c22
@[simp] def n22 (G : KT7 R) (v0 v2 v3 v4 v5 v6 v15 : GV) (h : Heap) : Option R := n23 k G v0 v2 v3 v4 v5 v6 v15 (.int .i64 0) h
theorem n22_eq (G : KT7 R) (σ : GS) (h : Heap) : KC k 154 c22 σ h (fun x σ h => G x (σ 0) (σ 2) (σ 3) (σ 4) (σ 5) (σ 6) (σ 15) h) = n22 k G (σ 0) (σ 2) (σ 3) (σ 4) (σ 5) (σ 6) (σ 15) h := (kseq (a := c31) (b := c23) rfl (fun σ h => n23_eq k G σ h)).trans (by kernel_rfl)
@[simp] def n10 (G : KT1 R) (v0 v2 v3 v4 v5 v6 v15 : GV) (h : Heap) : Option R := n22 k (fun x v0 v2 v3 v4 v5 v6 v15 h => kx x (n11 k G v0 v2 v3 v4 v5 v6 v15 h) (G x v2 h)) v0 v2 v3 v4 v5 v6 v15 h
theorem n10_eq (G : KT1 R) (σ : GS) (h : Heap) : KC k 154 c10 σ h (fun x σ h => G x (σ 2) h) = n10 k G (σ 0) (σ 2) (σ 3) (σ 4) (σ 5) (σ 6) (σ 15) h := (kseq (b := c11) rfl (fun σ h => n11_eq k G σ h)).trans (n22_eq k (fun x v0 v2 v3 v4 v5 v6 v15 h => kx x (n11 k G v0 v2 v3 v4 v5 v6 v15 h) (G x v2 h)) σ h)
noncomputable def c32 : Code := cL c9
@[simp] def n9 (G : KT1 R) (v0 v2 v3 v4 v5 v6 : GV) (h : Heap) : Option R := n10 k G v0 v2 v3 v4 v5 v6 (.str { data := #[] }) h
theorem n9_eq (G : KT1 R) (σ : GS) (h : Heap) : KC k 154 c9 σ h (fun x σ h => G x (σ 2) h) = n9 k G (σ 0) (σ 2) (σ 3) (σ 4) (σ 5) (σ 6) h := (kseq (a := c32) (b := c10) rfl (fun σ h => n10_eq k G σ h)).trans (by kernel_rfl)
noncomputable def c33 : Code := cL c8
noncomputable def c34 : Code := cR c33
noncomputable def c35 : Code := cR c34
@[simp] def n35 {R : Type} (k : Nat) (G : KT6 R) (v0 v2 v3 v4 v5 v6 v82 : GV) (h : Heap) : Option R := kcond v82 (G .ret v0 (.bool false) v3 v4 v5 v6 h) (G .nrm v0 v2 v3 v4 v5 v6 h)
theorem n35_eq (G : KT6 R) (σ : GS) (h : Heap) : KC k 154 c35 σ h (fun x σ h => G x (σ 0) (σ 2) (σ 3) (σ 4) (σ 5) (σ 6) h) = n35 k G (σ 0) (σ 2) (σ 3) (σ 4) (σ 5) (σ 6) (σ 82) h := by kernel_rfl
noncomputable def c36 : Code := cL c34
noncomputable def o36 : Array Oper := cO c36
@[simp] def g36_8 {R : Type} (k : Nat) (G : KT7 R) (v0 v2 v3 v4 v5 v6 v76 v81 : GV) (h : Heap) : Option R := (kpick v76 (.bool true) v81).bind fun v82 => G .nrm v0 v2 v3 v4 v5 v6 v82 h
theorem g36_8_eq (G : KT7 R) (σ : GS) (h : Heap) : kgroups PP cfg NN HH 154 o36 [(none, [31])] σ h (fun σ h => G .nrm (σ 0) (σ 2) (σ 3) (σ 4) (σ 5) (σ 6) (σ 82) h) = g36_8 k G (σ 0) (σ 2) (σ 3) (σ 4) (σ 5) (σ 6) (σ 76) (σ 81) h := by kernel_rfl
@[simp] def g36_7 (G : KT7 R) (v0 v2 v3 v4 v5 v6 v12 v76 : GV) (h : Heap) : Option R := bif tr false v76 then (kN NN fn.impl_Sum [v12] h).bind fun v78 => (kN NN fn.spec_Sum [v12] h).bind fun v80 => (kbin .neq v78 v80).bind fun v81 => g36_8 k G v0 v2 v3 v4 v5 v6 v76 v81 h else g36_8 k G v0 v2 v3 v4 v5 v6 v76 .un h
theorem g36_7_eq (G : KT7 R) (σ : GS) (h : Heap) : kgroups PP cfg NN HH 154 o36 [(some (25, false), [26, 27, 28, 29, 30]), (none, [31])] σ h (fun σ h => G .nrm (σ 0) (σ 2) (σ 3) (σ 4) (σ 5) (σ 6) (σ 82) h) = g36_7 k G (σ 0) (σ 2) (σ 3) (σ 4) (σ 5) (σ 6) (σ 12) (σ 76) h := (kgroups_cons (fun σ h => g36_8_eq k G σ h)).trans (by kernel_rfl)
@[simp] def g36_6 (G : KT7 R) (v0 v2 v3 v4 v5 v6 v12 v67 v74 : GV) (h : Heap) : Option R := (kpick v67 (.bool true) v74).bind fun v75 => g36_7 k G v0 v2 v3 v4 v5 v6 v12 v75 h
theorem g36_6_eq (G : KT7 R) (σ : GS) (h : Heap) : kgroups PP cfg NN HH 154 o36 [(none, [24, 25]), (some (25, false), [26, 27, 28, 29, 30]), (none, [31])] σ h (fun σ h => G .nrm (σ 0) (σ 2) (σ 3) (σ 4) (σ 5) (σ 6) (σ 82) h) = g36_6 k G (σ 0) (σ 2) (σ 3) (σ 4) (σ 5) (σ 6) (σ 12) (σ 67) (σ 74) h := (kgroups_cons (fun σ h => g36_7_eq k G σ h)).trans (by kernel_rfl)
@[simp] def g36_5 (G : KT7 R) (v0 v2 v3 v4 v5 v6 v7 v8 v9 v10 v11 v12 v67 : GV) (h : Heap) : Option R := bif tr false v67 then (kN NN fn.spec_Torn [v7, v8, v9, v10] h).bind fun v73 => (kbin .neq v11 v73).bind fun v74 => g36_6 k G v0 v2 v3 v4 v5 v6 v12 v67 v74 h else g36_6 k G v0 v2 v3 v4 v5 v6 v12 v67 .un h
theorem g36_5_eq (G : KT7 R) (σ : GS) (h : Heap) : kgroups PP cfg NN HH 154 o36 [(some (16, false), [17, 18, 19, 20, 21, 22, 23]), (none, [24, 25]), (some (25, false), [26, 27, 28, 29, 30]), (none, [31])] σ h (fun σ h => G .nrm (σ 0) (σ 2) (σ 3) (σ 4) (σ 5) (σ 6) (σ 82) h) = g36_5 k G (σ 0) (σ 2) (σ 3) (σ 4) (σ 5) (σ 6) (σ 7) (σ 8) (σ 9) (σ 10) (σ 11) (σ 12) (σ 67) h := (kgroups_cons (fun σ h => g36_6_eq k G σ h)).trans (by kernel_rfl)
@[simp] def g36_4 (G : KT7 R) (v0 v2 v3 v4 v5 v6 v7 v8 v9 v10 v11 v12 v60 v65 : GV) (h : Heap) : Option R := (kpick v60 (.bool true) v65).bind fun v66 => g36_5 k G v0 v2 v3 v4 v5 v6 v7 v8 v9 v10 v11 v12 v66 h
theorem g36_4_eq (G : KT7 R) (σ : GS) (h : Heap) : kgroups PP cfg NN HH 154 o36 [(none, [15, 16]), (some (16, false), [17, 18, 19, 20, 21, 22, 23]), (none, [24, 25]), (some (25, false), [26, 27, 28, 29, 30]), (none, [31])] σ h (fun σ h => G .nrm (σ 0) (σ 2) (σ 3) (σ 4) (σ 5) (σ 6) (σ 82) h) = g36_4 k G (σ 0) (σ 2) (σ 3) (σ 4) (σ 5) (σ 6) (σ 7) (σ 8) (σ 9) (σ 10) (σ 11) (σ 12) (σ 60) (σ 65) h := (kgroups_cons (fun σ h => g36_5_eq k G σ h)).trans (by kernel_rfl)
@[simp] def g36_3 (G : KT7 R) (v0 v2 v3 v4 v5 v6 v7 v8 v9 v10 v11 v12 v60 : GV) (h : Heap) : Option R := bif tr false v60 then (kN NN fn.impl_Record [v6] h).bind fun v62 => (kN NN fn.spec_Record [v6] h).bind fun v64 => (kbin .neq v62 v64).bind fun v65 => g36_4 k G v0 v2 v3 v4 v5 v6 v7 v8 v9 v10 v11 v12 v60 v65 h else g36_4 k G v0 v2 v3 v4 v5 v6 v7 v8 v9 v10 v11 v12 v60 .un h
theorem g36_3_eq (G : KT7 R) (σ : GS) (h : Heap) : kgroups PP cfg NN HH 154 o36 [(some (9, false), [10, 11, 12, 13, 14]), (none, [15, 16]), (some (16, false), [17, 18, 19, 20, 21, 22, 23]), (none, [24, 25]), (some (25, false), [26, 27, 28, 29, 30]), (none, [31])] σ h (fun σ h => G .nrm (σ 0) (σ 2) (σ 3) (σ 4) (σ 5) (σ 6) (σ 82) h) = g36_3 k G (σ 0) (σ 2) (σ 3) (σ 4) (σ 5) (σ 6) (σ 7) (σ 8) (σ 9) (σ 10) (σ 11) (σ 12) (σ 60) h := (kgroups_cons (fun σ h => g36_4_eq k G σ h)).trans (by kernel_rfl)
@[simp] def g36_2 (G : KT7 R) (v0 v2 v3 v4 v5 v6 v7 v8 v9 v10 v11 v12 v55 v58 : GV) (h : Heap) : Option R := (kpick v55 (.bool true) v58).bind fun v59 => g36_3 k G v0 v2 v3 v4 v5 v6 v7 v8 v9 v10 v11 v12 v59 h
theorem g36_2_eq (G : KT7 R) (σ : GS) (h : Heap) : kgroups PP cfg NN HH 154 o36 [(none, [8, 9]), (some (9, false), [10, 11, 12, 13, 14]), (none, [15, 16]), (some (16, false), [17, 18, 19, 20, 21, 22, 23]), (none, [24, 25]), (some (25, false), [26, 27, 28, 29, 30]), (none, [31])] σ h (fun σ h => G .nrm (σ 0) (σ 2) (σ 3) (σ 4) (σ 5) (σ 6) (σ 82) h) = g36_2 k G (σ 0) (σ 2) (σ 3) (σ 4) (σ 5) (σ 6) (σ 7) (σ 8) (σ 9) (σ 10) (σ 11) (σ 12) (σ 55) (σ 58) h := (kgroups_cons (fun σ h => g36_3_eq k G σ h)).trans (by kernel_rfl)
@[simp] def g36_1 (G : KT7 R) (v0 v2 v3 v4 v5 v6 v7 v8 v9 v10 v11 v12 v14 v55 : GV) (h : Heap) : Option R := bif tr false v55 then (kbin .neq v5 v14).bind fun v58 => g36_2 k G v0 v2 v3 v4 v5 v6 v7 v8 v9 v10 v11 v12 v55 v58 h else g36_2 k G v0 v2 v3 v4 v5 v6 v7 v8 v9 v10 v11 v12 v55 .un h
theorem g36_1_eq (G : KT7 R) (σ : GS) (h : Heap) : kgroups PP cfg NN HH 154 o36 [(some (4, false), [5, 6, 7]), (none, [8, 9]), (some (9, false), [10, 11, 12, 13, 14]), (none, [15, 16]), (some (16, false), [17, 18, 19, 20, 21, 22, 23]), (none, [24, 25]), (some (25, false), [26, 27, 28, 29, 30]), (none, [31])] σ h (fun σ h => G .nrm (σ 0) (σ 2) (σ 3) (σ 4) (σ 5) (σ 6) (σ 82) h) = g36_1 k G (σ 0) (σ 2) (σ 3) (σ 4) (σ 5) (σ 6) (σ 7) (σ 8) (σ 9) (σ 10) (σ 11) (σ 12) (σ 14) (σ 55) h := (kgroups_cons (fun σ h => g36_2_eq k G σ h)).trans (by kernel_rfl)
@[simp] def g36_0 (G : KT7 R) (v0 v2 v3 v4 v5 v6 v7 v8 v9 v10 v11 v12 v13 v14 : GV) (h : Heap) : Option R := (kN NN fn.laws_likeTexts [v4, v13] h).bind fun v53 => (kun .not v53).bind fun v54 => g36_1 k G v0 v2 v3 v4 v5 v6 v7 v8 v9 v10 v11 v12 v14 v54 h
theorem g36_0_eq (G : KT7 R) (σ : GS) (h : Heap) : kgroups PP cfg NN HH 154 o36 [(none, [0, 1, 2, 3, 4]), (some (4, false), [5, 6, 7]), (none, [8, 9]), (some (9, false), [10, 11, 12, 13, 14]), (none, [15, 16]), (some (16, false), [17, 18, 19, 20, 21, 22, 23]), (none, [24, 25]), (some (25, false), [26, 27, 28, 29, 30]), (none, [31])] σ h (fun σ h => G .nrm (σ 0) (σ 2) (σ 3) (σ 4) (σ 5) (σ 6) (σ 82) h) = g36_0 k G (σ 0) (σ 2) (σ 3) (σ 4) (σ 5) (σ 6) (σ 7) (σ 8) (σ 9) (σ 10) (σ 11) (σ 12) (σ 13) (σ 14) h := (kgroups_cons (fun σ h => g36_1_eq k G σ h)).trans (by kernel_rfl)
@[simp] def n36 (G : KT7 R) (v0 v2 v3 v4 v5 v6 v7 v8 v9 v10 v11 v12 v13 v14 : GV) (h : Heap) : Option R := g36_0 k G v0 v2 v3 v4 v5 v6 v7 v8 v9 v10 v11 v12 v13 v14 h
theorem n36_eq (G : KT7 R) (σ : GS) (h : Heap) : KC k 154 c36 σ h (fun x σ h => G x (σ 0) (σ 2) (σ 3) (σ 4) (σ 5) (σ 6) (σ 82) h) = n36 k G (σ 0) (σ 2) (σ 3) (σ 4) (σ 5) (σ 6) (σ 7) (σ 8) (σ 9) (σ 10) (σ 11) (σ 12) (σ 13) (σ 14) h := (kregion_eq (id := 10) (draw := false) (ops := o36) (gs := [(none, [0, 1, 2, 3, 4]), (some (4, false), [5, 6, 7]), (none, [8, 9]), (some (9, false), [10, 11, 12, 13, 14]), (none, [15, 16]), (some (16, false), [17, 18, 19, 20, 21, 22, 23]), (none, [24, 25]), (some (25, false), [26, 27, 28, 29, 30]), (none, [31])]) (by kernel_rfl) (by kernel_rfl) (by kernel_rfl)).trans (g36_0_eq k G σ h)
@[simp] def n34 (G : KT6 R) (v0 v2 v3 v4 v5 v6 v7 v8 v9 v10 v11 v12 v13 v14 : GV) (h : Heap) : Option R := n36 k (fun x v0 v2 v3 v4 v5 v6 v82 h => kx x (n35 k G v0 v2 v3 v4 v5 v6 v82 h) (G x v0 v2 v3 v4 v5 v6 h)) v0 v2 v3 v4 v5 v6 v7 v8 v9 v10 v11 v12 v13 v14 h
theorem n34_eq (G : KT6 R) (σ : GS) (h : Heap) : KC k 154 c34 σ h (fun x σ h => G x (σ 0) (σ 2) (σ 3) (σ 4) (σ 5) (σ 6) h) = n34 k G (σ 0) (σ 2) (σ 3) (σ 4) (σ 5) (σ 6) (σ 7) (σ 8) (σ 9) (σ 10) (σ 11) (σ 12) (σ 13) (σ 14) h := (kseq (b := c35) rfl (fun σ h => n35_eq k G σ h)).trans (n36_eq k (fun x v0 v2 v3 v4 v5 v6 v82 h => kx x (n35 k G v0 v2 v3 v4 v5 v6 v82 h) (G x v0 v2 v3 v4 v5 v6 h)) σ h)
noncomputable def c37 : Code := cL c33
@[simp] def n33 (G : KT6 R) (v0 v2 v3 v4 v5 v6 v7 v8 v9 v10 v11 v12 : GV) (h : Heap) : Option R := (kN NN fn.spec_Records [v3] h).bind fun v48 => (kxt 0 v48).bind fun v49 => (kxt 1 v48).bind fun v50 => n34 k G v0 v2 v3 v4 v5 v6 v7 v8 v9 v10 v11 v12 v49 v50 h
theorem n33_eq (G : KT6 R) (σ : GS) (h : Heap) : KC k 154 c33 σ h (fun x σ h => G x (σ 0) (σ 2) (σ 3) (σ 4) (σ 5) (σ 6) h) = n33 k G (σ 0) (σ 2) (σ 3) (σ 4) (σ 5) (σ 6) (σ 7) (σ 8) (σ 9) (σ 10) (σ 11) (σ 12) h := (kseq (a := c37) (b := c34) rfl (fun σ h => n34_eq k G σ h)).trans (by kernel_rfl)
@[simp] def n8 (G : KT1 R) (v0 v2 v3 v4 v5 v6 v7 v8 v9 v10 v11 v12 : GV) (h : Heap) : Option R := n33 k (fun x v0 v2 v3 v4 v5 v6 h => kx x (n9 k G v0 v2 v3 v4 v5 v6 h) (G x v2 h)) v0 v2 v3 v4 v5 v6 v7 v8 v9 v10 v11 v12 h
theorem n8_eq (G : KT1 R) (σ : GS) (h : Heap) : KC k 154 c8 σ h (fun x σ h => G x (σ 2) h) = n8 k G (σ 0) (σ 2) (σ 3) (σ 4) (σ 5) (σ 6) (σ 7) (σ 8) (σ 9) (σ 10) (σ 11) (σ 12) h := (kseq (b := c9) rfl (fun σ h => n9_eq k G σ h)).trans (n33_eq k (fun x v0 v2 v3 v4 v5 v6 h => kx x (n9 k G v0 v2 v3 v4 v5 v6 h) (G x v2 h)) σ h)
noncomputable def c38 : Code := cL c7
@[simp] def n7 (G : KT1 R) (v0 v2 v3 v4 v5 v6 v7 v8 v9 v10 v11 : GV) (h : Heap) : Option R := (kN NN fn.spec_DrawSum [v0] h).bind fun v45 => n8 k G v0 v2 v3 v4 v5 v6 v7 v8 v9 v10 v11 v45 h
theorem n7_eq (G : KT1 R) (σ : GS) (h : Heap) : KC k 154 c7 σ h (fun x σ h => G x (σ 2) h) = n7 k G (σ 0) (σ 2) (σ 3) (σ 4) (σ 5) (σ 6) (σ 7) (σ 8) (σ 9) (σ 10) (σ 11) h := (kseq (a := c38) (b := c8) rfl (fun σ h => n8_eq k G σ h)).trans (by kernel_rfl)
noncomputable def c39 : Code := cL c6
@[simp] def n6 (G : KT1 R) (v0 v2 v3 v4 v5 v6 v7 v8 v9 v10 : GV) (h : Heap) : Option R := (kN NN fn.impl_Torn [v7, v8, v9, v10] h).bind fun v43 => n7 k G v0 v2 v3 v4 v5 v6 v7 v8 v9 v10 v43 h
theorem n6_eq (G : KT1 R) (σ : GS) (h : Heap) : KC k 154 c6 σ h (fun x σ h => G x (σ 2) h) = n6 k G (σ 0) (σ 2) (σ 3) (σ 4) (σ 5) (σ 6) (σ 7) (σ 8) (σ 9) (σ 10) h := (kseq (a := c39) (b := c7) rfl (fun σ h => n7_eq k G σ h)).trans (by kernel_rfl)
noncomputable def c40 : Code := cL c5
@[simp] def n5 (G : KT1 R) (v0 v2 v3 v4 v5 v6 : GV) (h : Heap) : Option R := (kN NN fn.spec_DrawTorn [v0] h).bind fun v34 => (kxt 0 v34).bind fun v35 => (kxt 1 v34).bind fun v36 => (kxt 2 v34).bind fun v37 => (kxt 3 v34).bind fun v38 => n6 k G v0 v2 v3 v4 v5 v6 v35 v36 v37 v38 h
theorem n5_eq (G : KT1 R) (σ : GS) (h : Heap) : KC k 154 c5 σ h (fun x σ h => G x (σ 2) h) = n5 k G (σ 0) (σ 2) (σ 3) (σ 4) (σ 5) (σ 6) h := (kseq (a := c40) (b := c6) rfl (fun σ h => n6_eq k G σ h)).trans (by kernel_rfl)
noncomputable def c41 : Code := cL c4
@[simp] def n4 (G : KT1 R) (v0 v2 v3 v4 v5 : GV) (h : Heap) : Option R := (kN NN fn.spec_DrawRecord [v0] h).bind fun v31 => n5 k G v0 v2 v3 v4 v5 v31 h
theorem n4_eq (G : KT1 R) (σ : GS) (h : Heap) : KC k 154 c4 σ h (fun x σ h => G x (σ 2) h) = n4 k G (σ 0) (σ 2) (σ 3) (σ 4) (σ 5) h := (kseq (a := c41) (b := c5) rfl (fun σ h => n5_eq k G σ h)).trans (by kernel_rfl)
noncomputable def c42 : Code := cL c3
@[simp] def n3 (G : KT1 R) (v0 v2 v3 : GV) (h : Heap) : Option R := (kF false HH fn.impl_Records [v3] h).bind fun r => kr r fun v27 h => (kxt 0 v27).bind fun v28 => (kxt 1 v27).bind fun v29 => n4 k G v0 v2 v3 v28 v29 h
theorem n3_eq (G : KT1 R) (σ : GS) (h : Heap) : KC k 154 c3 σ h (fun x σ h => G x (σ 2) h) = n3 k G (σ 0) (σ 2) (σ 3) h := (kseq (a := c42) (b := c4) rfl (fun σ h => n4_eq k G σ h)).trans (by kernel_rfl)
noncomputable def c43 : Code := cL c2
@[simp] def n2 (G : KT1 R) (v0 v2 : GV) (h : Heap) : Option R := (kN NN fn.spec_DrawRecords [v0] h).bind fun v24 => n3 k G v0 v2 v24 h
theorem n2_eq (G : KT1 R) (σ : GS) (h : Heap) : KC k 154 c2 σ h (fun x σ h => G x (σ 2) h) = n2 k G (σ 0) (σ 2) h := (kseq (a := c43) (b := c3) rfl (fun σ h => n3_eq k G σ h)).trans (by kernel_rfl)
noncomputable def c44 : Code := cL c1
@[simp] def n1 (G : KT1 R) (v0 v2 : GV) (h : Heap) : Option R := (kN NN fn.laws_big [v0] h).bind fun v22 => kcond v22 (G .ret (.bool true) h) (n2 k G v0 v2 h)
theorem n1_eq (G : KT1 R) (σ : GS) (h : Heap) : KC k 154 c1 σ h (fun x σ h => G x (σ 2) h) = n1 k G (σ 0) (σ 2) h := (kseq (a := c44) (b := c2) rfl (fun σ h => n2_eq k G σ h)).trans (by kernel_rfl)
noncomputable def c45 : Code := cL c0
@[simp] def n0 (G : KT1 R) (v0 : GV) (h : Heap) : Option R := n1 k G v0 (.bool false) h
theorem n0_eq (G : KT1 R) (σ : GS) (h : Heap) : KC k 154 c0 σ h (fun x σ h => G x (σ 2) h) = n0 k G (σ 0) h := (kseq (a := c45) (b := c1) rfl (fun σ h => n1_eq k G σ h)).trans (by kernel_rfl)
def run {R : Type} (k : Nat) (a0 : GV) (h : Heap) (fin : GV → Heap → Option R) : Option R := n0 k (fun x v2 h => kend x (fin v2 h)) a0 h
theorem run_eq {R : Type} (k : Nat) (a0 : GV) (h : Heap) (fin : GV → Heap → Option R) : kfun PP cfg NN HH k fn.laws_FnRecords [a0] h fin = run k a0 h fin := (kfun_eq (nt := 154) (c := c0) (show PP.funcs[fn.laws_FnRecords]? = some Tryd.f10 by kernel_rfl) (by kernel_rfl) (by kernel_rfl) (fun x σ h => by cases x <;> kernel_rfl)).trans (n0_eq k (fun x v2 h => kend x (fin v2 h)) _ h)
theorem gives {k : Nat} {a0 : GV} {v : GV} (e : run k a0 [] finN = some v) : NN fn.laws_FnRecords [a0] = some v := nω_of (by kernel_rfl) ((run_eq k a0 [] finN).trans e)
end S.laws_FnRecords
/-! spec_DrawRecords -/
namespace S.spec_DrawRecords
noncomputable def c0 : Code := bodyOf Tryd.f43
noncomputable def c1 : Code := cR c0
noncomputable def c2 : Code := cR c1
noncomputable def c3 : Code := cR c2
noncomputable def c4 : Code := cR c3
noncomputable def c5 : Code := cR c4
@[simp] def n5 {R : Type} (k : Nat) (G : KT1 R) (v4 : GV) (h : Heap) : Option R := G .ret v4 h
theorem n5_eq (G : KT1 R) (σ : GS) (h : Heap) : KC k 28 c5 σ h (fun x σ h => G x (σ 2) h) = n5 k G (σ 4) h := by kernel_rfl
noncomputable def c6 : Code := cL c4
@[simp] def n4 (G : KT1 R) (v2 v3 v4 : GV) (h : Heap) : Option R := (HH fn.spec_l1Once [v3, (.int .i64 2)] h).bind fun r => kr r fun v23 h => kcond v23 ((HH fn.spec_l13Bend [v3, v4, (.str { data := #[48, 49, 57, 32, 97, 10] })] h).bind fun r => kr r fun v26 h => n5 k G v26 h) (n5 k G v4 h)
theorem n4_eq (G : KT1 R) (σ : GS) (h : Heap) : KC k 28 c4 σ h (fun x σ h => G x (σ 2) h) = n4 k G (σ 2) (σ 3) (σ 4) h := (kseq (a := c6) (b := c5) rfl (fun σ h => n5_eq k G σ h)).trans (by kernel_rfl)
noncomputable def c7 : Code := cL c3
noncomputable def c8 : Code := cR c7
noncomputable def c9 : Code := cL c8
noncomputable def c10 : Code := cL c9
noncomputable def c11 : Code := cR c10
noncomputable def c12 : Code := cR c11
@[simp] def n12 {R : Type} (k : Nat) (G : KT4 R) (v2 v3 v4 v5 : GV) (h : Heap) : Option R := (kbin .sub v5 (.int .i64 1)).bind fun v13 => G .nrm v2 v3 v4 v13 h
theorem n12_eq (G : KT4 R) (σ : GS) (h : Heap) : KC k 28 c12 σ h (fun x σ h => G x (σ 2) (σ 3) (σ 4) (σ 5) h) = n12 k G (σ 2) (σ 3) (σ 4) (σ 5) h := by kernel_rfl
noncomputable def c13 : Code := cL c11
noncomputable def c14 : Code := cL c13
@[simp] def n14 {R : Type} (k : Nat) (G : KT4 R) (v2 v3 v4 v5 : GV) (h : Heap) : Option R := (gfill (fun i => some (i * 1, 1)) (zeros [(.str { data := #[] })] 4) [(0, (.str { data := #[97] })), (1, (.str { data := #[98, 99, 10] })), (2, (.str { data := #[] })), (3, (.str { data := #[49, 32, 50, 10] }))]).bind fun c => kbs 4 1 c h fun v15 h => (HH fn.spec_l1Below [v3, (.int .i64 4)] h).bind fun r => kr r fun v17 h => (kia 1 v15 v17).bind fun v18 => (kload1 h v18).bind fun v19 => (kN NN fn.spec_Record [v19] h).bind fun v20 => (kbin .add v4 v20).bind fun v21 => G .nrm v2 v3 v21 v5 h
theorem n14_eq (G : KT4 R) (σ : GS) (h : Heap) : KC k 28 c14 σ h (fun x σ h => G x (σ 2) (σ 3) (σ 4) (σ 5) h) = n14 k G (σ 2) (σ 3) (σ 4) (σ 5) h := by kernel_rfl
@[simp] def n13 (G : KT4 R) (v2 v3 v4 v5 : GV) (h : Heap) : Option R := n14 k (fun x v2 v3 v4 v5 h => kb 1 x fun x => G x v2 v3 v4 v5 h) v2 v3 v4 v5 h
theorem n13_eq (G : KT4 R) (σ : GS) (h : Heap) : KC k 28 c13 σ h (fun x σ h => G x (σ 2) (σ 3) (σ 4) (σ 5) h) = n13 k G (σ 2) (σ 3) (σ 4) (σ 5) h := (kblock_eq (a := c14) rfl).trans (n14_eq k (fun x v2 v3 v4 v5 h => kb 1 x fun x => G x v2 v3 v4 v5 h) σ h)
@[simp] def n11 (G : KT4 R) (v2 v3 v4 v5 : GV) (h : Heap) : Option R := n13 k (fun x v2 v3 v4 v5 h => kx x (n12 k G v2 v3 v4 v5 h) (G x v2 v3 v4 v5 h)) v2 v3 v4 v5 h
theorem n11_eq (G : KT4 R) (σ : GS) (h : Heap) : KC k 28 c11 σ h (fun x σ h => G x (σ 2) (σ 3) (σ 4) (σ 5) h) = n11 k G (σ 2) (σ 3) (σ 4) (σ 5) h := (kseq (b := c12) rfl (fun σ h => n12_eq k G σ h)).trans (n13_eq k (fun x v2 v3 v4 v5 h => kx x (n12 k G v2 v3 v4 v5 h) (G x v2 v3 v4 v5 h)) σ h)
noncomputable def c15 : Code := cL c10
@[simp] def n10 (G : KT4 R) (v2 v3 v4 v5 : GV) (h : Heap) : Option R := (kbin .gtr v5 (.int .i64 0)).bind fun v11 => kcond v11 (n11 k G v2 v3 v4 v5 h) (G (.ext 0) v2 v3 v4 v5 h)
theorem n10_eq (G : KT4 R) (σ : GS) (h : Heap) : KC k 28 c10 σ h (fun x σ h => G x (σ 2) (σ 3) (σ 4) (σ 5) h) = n10 k G (σ 2) (σ 3) (σ 4) (σ 5) h := (kseq (a := c15) (b := c11) rfl (fun σ h => n11_eq k G σ h)).trans (by kernel_rfl)
def l9 {R : Type} (k : Nat) (G : KT3 R) : Nat → GV → GV → GV → GV → Heap → Option R
  | 0, _, _, _, _, _ => none
  | r + 1, v2, v3, v4, v5, h => n10 k (fun x v2 v3 v4 v5 h => kx x (l9 k G r v2 v3 v4 v5 h) (G x v2 v3 v4 h)) v2 v3 v4 v5 h
theorem l9_eq {R : Type} (k : Nat) (G : KT3 R) : ∀ (r : Nat) (σ : GS) (h : Heap), kloop (fun σ h K => KC k 28 c10 σ h K) r σ h (fun x σ h => G x (σ 2) (σ 3) (σ 4) h) = l9 k G r (σ 2) (σ 3) (σ 4) (σ 5) h
  | 0, _, _ => rfl
  | r + 1, σ, h => (kloop_eq (fun σ h => l9_eq k G r σ h)).trans (n10_eq k (fun x v2 v3 v4 v5 h => kx x (l9 k G r v2 v3 v4 v5 h) (G x v2 v3 v4 h)) σ h)
@[simp] def n9 (G : KT3 R) (v2 v3 v4 v5 : GV) (h : Heap) : Option R := l9 k G k v2 v3 v4 v5 h
theorem n9_eq (G : KT3 R) (σ : GS) (h : Heap) : KC k 28 c9 σ h (fun x σ h => G x (σ 2) (σ 3) (σ 4) h) = n9 k G (σ 2) (σ 3) (σ 4) (σ 5) h := (kloopc_eq (a := c10) rfl).trans (l9_eq k G k σ h)
@[simp] def n8 (G : KT3 R) (v2 v3 v4 v5 : GV) (h : Heap) : Option R := n9 k (fun x v2 v3 v4 h => kb 0 x fun x => G x v2 v3 v4 h) v2 v3 v4 v5 h
theorem n8_eq (G : KT3 R) (σ : GS) (h : Heap) : KC k 28 c8 σ h (fun x σ h => G x (σ 2) (σ 3) (σ 4) h) = n8 k G (σ 2) (σ 3) (σ 4) (σ 5) h := (kblock_eq (a := c9) rfl).trans (n9_eq k (fun x v2 v3 v4 h => kb 0 x fun x => G x v2 v3 v4 h) σ h)
noncomputable def c16 : Code := cL c7
@[simp] def n7 (G : KT3 R) (v2 v3 v4 : GV) (h : Heap) : Option R := (HH fn.spec_l1Below [v3, (.int .i64 5)] h).bind fun r => kr r fun v9 h => n8 k G v2 v3 v4 v9 h
theorem n7_eq (G : KT3 R) (σ : GS) (h : Heap) : KC k 28 c7 σ h (fun x σ h => G x (σ 2) (σ 3) (σ 4) h) = n7 k G (σ 2) (σ 3) (σ 4) h := (kseq (a := c16) (b := c8) rfl (fun σ h => n8_eq k G σ h)).trans (by kernel_rfl)
@[simp] def n3 (G : KT1 R) (v2 v3 v4 : GV) (h : Heap) : Option R := n7 k (fun x v2 v3 v4 h => kx x (n4 k G v2 v3 v4 h) (G x v2 h)) v2 v3 v4 h
theorem n3_eq (G : KT1 R) (σ : GS) (h : Heap) : KC k 28 c3 σ h (fun x σ h => G x (σ 2) h) = n3 k G (σ 2) (σ 3) (σ 4) h := (kseq (b := c4) rfl (fun σ h => n4_eq k G σ h)).trans (n7_eq k (fun x v2 v3 v4 h => kx x (n4 k G v2 v3 v4 h) (G x v2 h)) σ h)
noncomputable def c17 : Code := cL c2
@[simp] def n2 (G : KT1 R) (v2 v3 : GV) (h : Heap) : Option R := n3 k G v2 v3 (.str { data := #[] }) h
theorem n2_eq (G : KT1 R) (σ : GS) (h : Heap) : KC k 28 c2 σ h (fun x σ h => G x (σ 2) h) = n2 k G (σ 2) (σ 3) h := (kseq (a := c17) (b := c3) rfl (fun σ h => n3_eq k G σ h)).trans (by kernel_rfl)
noncomputable def c18 : Code := cL c1
@[simp] def n1 (G : KT1 R) (v0 v2 : GV) (h : Heap) : Option R := (HH fn.spec_l1New [v0] h).bind fun r => kr r fun v7 h => n2 k G v2 v7 h
theorem n1_eq (G : KT1 R) (σ : GS) (h : Heap) : KC k 28 c1 σ h (fun x σ h => G x (σ 2) h) = n1 k G (σ 0) (σ 2) h := (kseq (a := c18) (b := c2) rfl (fun σ h => n2_eq k G σ h)).trans (by kernel_rfl)
noncomputable def c19 : Code := cL c0
@[simp] def n0 (G : KT1 R) (v0 : GV) (h : Heap) : Option R := n1 k G v0 (.str { data := #[] }) h
theorem n0_eq (G : KT1 R) (σ : GS) (h : Heap) : KC k 28 c0 σ h (fun x σ h => G x (σ 2) h) = n0 k G (σ 0) h := (kseq (a := c19) (b := c1) rfl (fun σ h => n1_eq k G σ h)).trans (by kernel_rfl)
def run {R : Type} (k : Nat) (a0 : GV) (h : Heap) (fin : GV → Heap → Option R) : Option R := n0 k (fun x v2 h => kend x (fin v2 h)) a0 h
theorem run_eq {R : Type} (k : Nat) (a0 : GV) (h : Heap) (fin : GV → Heap → Option R) : kfun PP cfg NN HH k fn.spec_DrawRecords [a0] h fin = run k a0 h fin := (kfun_eq (nt := 28) (c := c0) (show PP.funcs[fn.spec_DrawRecords]? = some Tryd.f43 by kernel_rfl) (by kernel_rfl) (by kernel_rfl) (fun x σ h => by cases x <;> kernel_rfl)).trans (n0_eq k (fun x v2 h => kend x (fin v2 h)) _ h)
theorem gives {k : Nat} {a0 : GV} {v : GV} (e : run k a0 [] finN = some v) : NN fn.spec_DrawRecords [a0] = some v := nω_of (by kernel_rfl) ((run_eq k a0 [] finN).trans e)
end S.spec_DrawRecords
/-! spec_DrawRecord -/
namespace S.spec_DrawRecord
noncomputable def c0 : Code := bodyOf Tryd.f44
@[simp] def n0 {R : Type} (k : Nat) (G : KT1 R) (v0 : GV) (h : Heap) : Option R := (HH fn.spec_l1New [v0] h).bind fun r => kr r fun v5 h => (HH fn.spec_l1Once [v5, (.int .i64 30)] h).bind fun r => kr r fun v7 h => kcond v7 ((HH fn.spec_l1Below [v5, (.int .i64 2)] h).bind fun r => kr r fun v9 h => (kbin .add (.int .i64 5000) v9).bind fun v10 => (kmake [(.int .u8 0)] 1 1 v10 v10 h).bind fun r => kr r fun v11 h => (kbstr h v11).bind fun v12 => G .ret v12 h) ((HH fn.spec_l1DrawBytes [v5] h).bind fun r => kr r fun v14 h => G .ret v14 h)
theorem n0_eq (G : KT1 R) (σ : GS) (h : Heap) : KC k 15 c0 σ h (fun x σ h => G x (σ 2) h) = n0 k G (σ 0) h := by kernel_rfl
def run {R : Type} (k : Nat) (a0 : GV) (h : Heap) (fin : GV → Heap → Option R) : Option R := n0 k (fun x v2 h => kend x (fin v2 h)) a0 h
theorem run_eq {R : Type} (k : Nat) (a0 : GV) (h : Heap) (fin : GV → Heap → Option R) : kfun PP cfg NN HH k fn.spec_DrawRecord [a0] h fin = run k a0 h fin := (kfun_eq (nt := 15) (c := c0) (show PP.funcs[fn.spec_DrawRecord]? = some Tryd.f44 by kernel_rfl) (by kernel_rfl) (by kernel_rfl) (fun x σ h => by cases x <;> kernel_rfl)).trans (n0_eq k (fun x v2 h => kend x (fin v2 h)) _ h)
theorem gives {k : Nat} {a0 : GV} {v : GV} (e : run k a0 [] finN = some v) : NN fn.spec_DrawRecord [a0] = some v := nω_of (by kernel_rfl) ((run_eq k a0 [] finN).trans e)
end S.spec_DrawRecord
/-! spec_DrawTorn -/
namespace S.spec_DrawTorn
noncomputable def c0 : Code := bodyOf Tryd.f45
noncomputable def c1 : Code := cR c0
noncomputable def c2 : Code := cR c1
noncomputable def c3 : Code := cR c2
noncomputable def c4 : Code := cR c3
noncomputable def c5 : Code := cR c4
noncomputable def c6 : Code := cR c5
@[simp] def n6 {R : Type} (k : Nat) (G : KT4 R) (v7 v8 v9 : GV) (h : Heap) : Option R := (kN NN fn.spec_Record [(.str { data := #[110, 101, 119] })] h).bind fun v30 => (kbin .add v30 (.str { data := #[120] })).bind fun v31 => G .ret v7 v8 v31 v9 h
theorem n6_eq (G : KT4 R) (σ : GS) (h : Heap) : KC k 33 c6 σ h (fun x σ h => G x (σ 2) (σ 3) (σ 4) (σ 5) h) = n6 k G (σ 7) (σ 8) (σ 9) h := by kernel_rfl
noncomputable def c7 : Code := cL c5
@[simp] def n5 (G : KT4 R) (v2 v3 v4 v5 v6 v7 v8 v9 : GV) (h : Heap) : Option R := (HH fn.spec_l1Once [v6, (.int .i64 10)] h).bind fun r => kr r fun v22 h => kcond v22 ((gfill (fun i => some (i * 1, 1)) (zeros [(.int .i64 0)] 3) [(0, (.int .i64 (-1))), (1, (.int .i64 4611686018427387904)), (2, (.int .i64 (-9223372036854775808)))]).bind fun c => kbs 3 1 c h fun v23 h => (HH fn.spec_l1Below [v6, (.int .i64 3)] h).bind fun r => kr r fun v25 h => (kia 1 v23 v25).bind fun v26 => (kload1 h v26).bind fun v27 => n6 k G v7 v27 v9 h) (n6 k G v7 v8 v9 h)
theorem n5_eq (G : KT4 R) (σ : GS) (h : Heap) : KC k 33 c5 σ h (fun x σ h => G x (σ 2) (σ 3) (σ 4) (σ 5) h) = n5 k G (σ 2) (σ 3) (σ 4) (σ 5) (σ 6) (σ 7) (σ 8) (σ 9) h := (kseq (a := c7) (b := c6) rfl (fun σ h => n6_eq k G σ h)).trans (by kernel_rfl)
noncomputable def c8 : Code := cL c4
@[simp] def n4 (G : KT4 R) (v2 v3 v4 v5 v6 v7 v8 : GV) (h : Heap) : Option R := (HH fn.spec_l1Below [v6, (.int .i64 12)] h).bind fun r => kr r fun v20 h => n5 k G v2 v3 v4 v5 v6 v7 v8 v20 h
theorem n4_eq (G : KT4 R) (σ : GS) (h : Heap) : KC k 33 c4 σ h (fun x σ h => G x (σ 2) (σ 3) (σ 4) (σ 5) h) = n4 k G (σ 2) (σ 3) (σ 4) (σ 5) (σ 6) (σ 7) (σ 8) h := (kseq (a := c8) (b := c5) rfl (fun σ h => n5_eq k G σ h)).trans (by kernel_rfl)
noncomputable def c9 : Code := cL c3
@[simp] def n3 (G : KT4 R) (v2 v3 v4 v5 v6 v7 : GV) (h : Heap) : Option R := (klenS v7).bind fun v16 => (kbin .add v16 (.int .i64 2)).bind fun v17 => (HH fn.spec_l1Below [v6, v17] h).bind fun r => kr r fun v18 h => n4 k G v2 v3 v4 v5 v6 v7 v18 h
theorem n3_eq (G : KT4 R) (σ : GS) (h : Heap) : KC k 33 c3 σ h (fun x σ h => G x (σ 2) (σ 3) (σ 4) (σ 5) h) = n3 k G (σ 2) (σ 3) (σ 4) (σ 5) (σ 6) (σ 7) h := (kseq (a := c9) (b := c4) rfl (fun σ h => n4_eq k G σ h)).trans (by kernel_rfl)
noncomputable def c10 : Code := cL c2
@[simp] def n2 (G : KT4 R) (v0 v2 v3 v4 v5 v6 : GV) (h : Heap) : Option R := (kN NN fn.spec_DrawRecords [v0] h).bind fun v13 => n3 k G v2 v3 v4 v5 v6 v13 h
theorem n2_eq (G : KT4 R) (σ : GS) (h : Heap) : KC k 33 c2 σ h (fun x σ h => G x (σ 2) (σ 3) (σ 4) (σ 5) h) = n2 k G (σ 0) (σ 2) (σ 3) (σ 4) (σ 5) (σ 6) h := (kseq (a := c10) (b := c3) rfl (fun σ h => n3_eq k G σ h)).trans (by kernel_rfl)
noncomputable def c11 : Code := cL c1
@[simp] def n1 (G : KT4 R) (v0 v2 v3 v4 v5 : GV) (h : Heap) : Option R := (HH fn.spec_l1New [v0] h).bind fun r => kr r fun v11 h => n2 k G v0 v2 v3 v4 v5 v11 h
theorem n1_eq (G : KT4 R) (σ : GS) (h : Heap) : KC k 33 c1 σ h (fun x σ h => G x (σ 2) (σ 3) (σ 4) (σ 5) h) = n1 k G (σ 0) (σ 2) (σ 3) (σ 4) (σ 5) h := (kseq (a := c11) (b := c2) rfl (fun σ h => n2_eq k G σ h)).trans (by kernel_rfl)
noncomputable def c12 : Code := cL c0
@[simp] def n0 (G : KT4 R) (v0 : GV) (h : Heap) : Option R := n1 k G v0 (.str { data := #[] }) (.int .i64 0) (.str { data := #[] }) (.int .i64 0) h
theorem n0_eq (G : KT4 R) (σ : GS) (h : Heap) : KC k 33 c0 σ h (fun x σ h => G x (σ 2) (σ 3) (σ 4) (σ 5) h) = n0 k G (σ 0) h := (kseq (a := c12) (b := c1) rfl (fun σ h => n1_eq k G σ h)).trans (by kernel_rfl)
def run {R : Type} (k : Nat) (a0 : GV) (h : Heap) (fin : GV → Heap → Option R) : Option R := n0 k (fun x v2 v3 v4 v5 h => kend x (fin (.tup [v2, v3, v4, v5]) h)) a0 h
theorem run_eq {R : Type} (k : Nat) (a0 : GV) (h : Heap) (fin : GV → Heap → Option R) : kfun PP cfg NN HH k fn.spec_DrawTorn [a0] h fin = run k a0 h fin := (kfun_eq (nt := 33) (c := c0) (show PP.funcs[fn.spec_DrawTorn]? = some Tryd.f45 by kernel_rfl) (by kernel_rfl) (by kernel_rfl) (fun x σ h => by cases x <;> kernel_rfl)).trans (n0_eq k (fun x v2 v3 v4 v5 h => kend x (fin (.tup [v2, v3, v4, v5]) h)) _ h)
theorem gives {k : Nat} {a0 : GV} {v : GV} (e : run k a0 [] finN = some v) : NN fn.spec_DrawTorn [a0] = some v := nω_of (by kernel_rfl) ((run_eq k a0 [] finN).trans e)
end S.spec_DrawTorn
/-! impl_Torn -/
namespace S.impl_Torn
noncomputable def c0 : Code := bodyOf Tryd.f46
@[simp] def n0 {R : Type} (k : Nat) (G : KT1 R) (v0 v1 v2 v3 : GV) (h : Heap) : Option R := (kN NN fn.impl_first [v0, v1] h).bind fun v11 => (kN NN fn.impl_first [v2, v3] h).bind fun v14 => (kbin .add v11 v14).bind fun v15 => G .ret v15 h
theorem n0_eq (G : KT1 R) (σ : GS) (h : Heap) : KC k 16 c0 σ h (fun x σ h => G x (σ 8) h) = n0 k G (σ 0) (σ 1) (σ 2) (σ 3) h := by kernel_rfl
def run {R : Type} (k : Nat) (a0 : GV) (a1 : GV) (a2 : GV) (a3 : GV) (h : Heap) (fin : GV → Heap → Option R) : Option R := n0 k (fun x v8 h => kend x (fin v8 h)) a0 a1 a2 a3 h
theorem run_eq {R : Type} (k : Nat) (a0 : GV) (a1 : GV) (a2 : GV) (a3 : GV) (h : Heap) (fin : GV → Heap → Option R) : kfun PP cfg NN HH k fn.impl_Torn [a0, a1, a2, a3] h fin = run k a0 a1 a2 a3 h fin := (kfun_eq (nt := 16) (c := c0) (show PP.funcs[fn.impl_Torn]? = some Tryd.f46 by kernel_rfl) (by kernel_rfl) (by kernel_rfl) (fun x σ h => by cases x <;> kernel_rfl)).trans (n0_eq k (fun x v8 h => kend x (fin v8 h)) _ h)
theorem gives {k : Nat} {a0 : GV} {a1 : GV} {a2 : GV} {a3 : GV} {v : GV} (e : run k a0 a1 a2 a3 [] finN = some v) : NN fn.impl_Torn [a0, a1, a2, a3] = some v := nω_of (by kernel_rfl) ((run_eq k a0 a1 a2 a3 [] finN).trans e)
end S.impl_Torn
/-! spec_DrawSum -/
namespace S.spec_DrawSum
noncomputable def c0 : Code := bodyOf Tryd.f47
@[simp] def n0 {R : Type} (k : Nat) (G : KT1 R) (v0 : GV) (h : Heap) : Option R := (kN NN fn.spec_DrawGet [v0] h).bind fun v4 => G .ret v4 h
theorem n0_eq (G : KT1 R) (σ : GS) (h : Heap) : KC k 5 c0 σ h (fun x σ h => G x (σ 2) h) = n0 k G (σ 0) h := by kernel_rfl
def run {R : Type} (k : Nat) (a0 : GV) (h : Heap) (fin : GV → Heap → Option R) : Option R := n0 k (fun x v2 h => kend x (fin v2 h)) a0 h
theorem run_eq {R : Type} (k : Nat) (a0 : GV) (h : Heap) (fin : GV → Heap → Option R) : kfun PP cfg NN HH k fn.spec_DrawSum [a0] h fin = run k a0 h fin := (kfun_eq (nt := 5) (c := c0) (show PP.funcs[fn.spec_DrawSum]? = some Tryd.f47 by kernel_rfl) (by kernel_rfl) (by kernel_rfl) (fun x σ h => by cases x <;> kernel_rfl)).trans (n0_eq k (fun x v2 h => kend x (fin v2 h)) _ h)
theorem gives {k : Nat} {a0 : GV} {v : GV} (e : run k a0 [] finN = some v) : NN fn.spec_DrawSum [a0] = some v := nω_of (by kernel_rfl) ((run_eq k a0 [] finN).trans e)
end S.spec_DrawSum
/-! laws_likeTexts -/
namespace S.laws_likeTexts
noncomputable def c0 : Code := bodyOf Tryd.f48
noncomputable def c1 : Code := cR c0
noncomputable def c2 : Code := cR c1
noncomputable def c3 : Code := cR c2
@[simp] def n3 {R : Type} (k : Nat) (G : KT1 R) (h : Heap) : Option R := G .ret (.bool true) h
theorem n3_eq (G : KT1 R) (σ : GS) (h : Heap) : KC k 26 c3 σ h (fun x σ h => G x (σ 4) h) = n3 k G h := by kernel_rfl
noncomputable def c4 : Code := cL c2
noncomputable def c5 : Code := cR c4
noncomputable def c6 : Code := cL c5
noncomputable def c7 : Code := cL c6
noncomputable def c8 : Code := cR c7
noncomputable def c9 : Code := cR c8
@[simp] def n9 {R : Type} (k : Nat) (G : KT4 R) (v0 v1 v4 v5 : GV) (h : Heap) : Option R := (kbin .add v5 (.int .i64 1)).bind fun v16 => G .nrm v0 v1 v4 v16 h
theorem n9_eq (G : KT4 R) (σ : GS) (h : Heap) : KC k 26 c9 σ h (fun x σ h => G x (σ 0) (σ 1) (σ 4) (σ 5) h) = n9 k G (σ 0) (σ 1) (σ 4) (σ 5) h := by kernel_rfl
noncomputable def c10 : Code := cL c8
noncomputable def c11 : Code := cL c10
@[simp] def n11 {R : Type} (k : Nat) (G : KT4 R) (v0 v1 v4 v5 : GV) (h : Heap) : Option R := (kia 1 v0 v5).bind fun v19 => (kload1 h v19).bind fun v20 => (kia 1 v1 v5).bind fun v23 => (kload1 h v23).bind fun v24 => (kbin .neq v20 v24).bind fun v25 => kcond v25 (G .ret v0 v1 (.bool false) v5 h) (G .nrm v0 v1 v4 v5 h)
theorem n11_eq (G : KT4 R) (σ : GS) (h : Heap) : KC k 26 c11 σ h (fun x σ h => G x (σ 0) (σ 1) (σ 4) (σ 5) h) = n11 k G (σ 0) (σ 1) (σ 4) (σ 5) h := by kernel_rfl
@[simp] def n10 (G : KT4 R) (v0 v1 v4 v5 : GV) (h : Heap) : Option R := n11 k (fun x v0 v1 v4 v5 h => kb 1 x fun x => G x v0 v1 v4 v5 h) v0 v1 v4 v5 h
theorem n10_eq (G : KT4 R) (σ : GS) (h : Heap) : KC k 26 c10 σ h (fun x σ h => G x (σ 0) (σ 1) (σ 4) (σ 5) h) = n10 k G (σ 0) (σ 1) (σ 4) (σ 5) h := (kblock_eq (a := c11) rfl).trans (n11_eq k (fun x v0 v1 v4 v5 h => kb 1 x fun x => G x v0 v1 v4 v5 h) σ h)
@[simp] def n8 (G : KT4 R) (v0 v1 v4 v5 : GV) (h : Heap) : Option R := n10 k (fun x v0 v1 v4 v5 h => kx x (n9 k G v0 v1 v4 v5 h) (G x v0 v1 v4 v5 h)) v0 v1 v4 v5 h
theorem n8_eq (G : KT4 R) (σ : GS) (h : Heap) : KC k 26 c8 σ h (fun x σ h => G x (σ 0) (σ 1) (σ 4) (σ 5) h) = n8 k G (σ 0) (σ 1) (σ 4) (σ 5) h := (kseq (b := c9) rfl (fun σ h => n9_eq k G σ h)).trans (n10_eq k (fun x v0 v1 v4 v5 h => kx x (n9 k G v0 v1 v4 v5 h) (G x v0 v1 v4 v5 h)) σ h)
noncomputable def c12 : Code := cL c7
@[simp] def n7 (G : KT4 R) (v0 v1 v4 v5 : GV) (h : Heap) : Option R := (klen v0).bind fun v13 => (kbin .lss v5 v13).bind fun v14 => kcond v14 (n8 k G v0 v1 v4 v5 h) (G (.ext 0) v0 v1 v4 v5 h)
theorem n7_eq (G : KT4 R) (σ : GS) (h : Heap) : KC k 26 c7 σ h (fun x σ h => G x (σ 0) (σ 1) (σ 4) (σ 5) h) = n7 k G (σ 0) (σ 1) (σ 4) (σ 5) h := (kseq (a := c12) (b := c8) rfl (fun σ h => n8_eq k G σ h)).trans (by kernel_rfl)
def l6 {R : Type} (k : Nat) (G : KT1 R) : Nat → GV → GV → GV → GV → Heap → Option R
  | 0, _, _, _, _, _ => none
  | r + 1, v0, v1, v4, v5, h => n7 k (fun x v0 v1 v4 v5 h => kx x (l6 k G r v0 v1 v4 v5 h) (G x v4 h)) v0 v1 v4 v5 h
theorem l6_eq {R : Type} (k : Nat) (G : KT1 R) : ∀ (r : Nat) (σ : GS) (h : Heap), kloop (fun σ h K => KC k 26 c7 σ h K) r σ h (fun x σ h => G x (σ 4) h) = l6 k G r (σ 0) (σ 1) (σ 4) (σ 5) h
  | 0, _, _ => rfl
  | r + 1, σ, h => (kloop_eq (fun σ h => l6_eq k G r σ h)).trans (n7_eq k (fun x v0 v1 v4 v5 h => kx x (l6 k G r v0 v1 v4 v5 h) (G x v4 h)) σ h)
@[simp] def n6 (G : KT1 R) (v0 v1 v4 v5 : GV) (h : Heap) : Option R := l6 k G k v0 v1 v4 v5 h
theorem n6_eq (G : KT1 R) (σ : GS) (h : Heap) : KC k 26 c6 σ h (fun x σ h => G x (σ 4) h) = n6 k G (σ 0) (σ 1) (σ 4) (σ 5) h := (kloopc_eq (a := c7) rfl).trans (l6_eq k G k σ h)
@[simp] def n5 (G : KT1 R) (v0 v1 v4 v5 : GV) (h : Heap) : Option R := n6 k (fun x v4 h => kb 0 x fun x => G x v4 h) v0 v1 v4 v5 h
theorem n5_eq (G : KT1 R) (σ : GS) (h : Heap) : KC k 26 c5 σ h (fun x σ h => G x (σ 4) h) = n5 k G (σ 0) (σ 1) (σ 4) (σ 5) h := (kblock_eq (a := c6) rfl).trans (n6_eq k (fun x v4 h => kb 0 x fun x => G x v4 h) σ h)
noncomputable def c13 : Code := cL c4
@[simp] def n4 (G : KT1 R) (v0 v1 v4 : GV) (h : Heap) : Option R := n5 k G v0 v1 v4 (.int .i64 0) h
theorem n4_eq (G : KT1 R) (σ : GS) (h : Heap) : KC k 26 c4 σ h (fun x σ h => G x (σ 4) h) = n4 k G (σ 0) (σ 1) (σ 4) h := (kseq (a := c13) (b := c5) rfl (fun σ h => n5_eq k G σ h)).trans (by kernel_rfl)
@[simp] def n2 (G : KT1 R) (v0 v1 v4 : GV) (h : Heap) : Option R := n4 k (fun x v4 h => kx x (n3 k G h) (G x v4 h)) v0 v1 v4 h
theorem n2_eq (G : KT1 R) (σ : GS) (h : Heap) : KC k 26 c2 σ h (fun x σ h => G x (σ 4) h) = n2 k G (σ 0) (σ 1) (σ 4) h := (kseq (b := c3) rfl (fun σ h => n3_eq k G σ h)).trans (n4_eq k (fun x v4 h => kx x (n3 k G h) (G x v4 h)) σ h)
noncomputable def c14 : Code := cL c1
@[simp] def n1 (G : KT1 R) (v0 v1 v4 : GV) (h : Heap) : Option R := (klen v0).bind fun v7 => (klen v1).bind fun v9 => (kbin .neq v7 v9).bind fun v10 => kcond v10 (G .ret (.bool false) h) (n2 k G v0 v1 v4 h)
theorem n1_eq (G : KT1 R) (σ : GS) (h : Heap) : KC k 26 c1 σ h (fun x σ h => G x (σ 4) h) = n1 k G (σ 0) (σ 1) (σ 4) h := (kseq (a := c14) (b := c2) rfl (fun σ h => n2_eq k G σ h)).trans (by kernel_rfl)
noncomputable def c15 : Code := cL c0
@[simp] def n0 (G : KT1 R) (v0 v1 : GV) (h : Heap) : Option R := n1 k G v0 v1 (.bool false) h
theorem n0_eq (G : KT1 R) (σ : GS) (h : Heap) : KC k 26 c0 σ h (fun x σ h => G x (σ 4) h) = n0 k G (σ 0) (σ 1) h := (kseq (a := c15) (b := c1) rfl (fun σ h => n1_eq k G σ h)).trans (by kernel_rfl)
def run {R : Type} (k : Nat) (a0 : GV) (a1 : GV) (h : Heap) (fin : GV → Heap → Option R) : Option R := n0 k (fun x v4 h => kend x (fin v4 h)) a0 a1 h
theorem run_eq {R : Type} (k : Nat) (a0 : GV) (a1 : GV) (h : Heap) (fin : GV → Heap → Option R) : kfun PP cfg NN HH k fn.laws_likeTexts [a0, a1] h fin = run k a0 a1 h fin := (kfun_eq (nt := 26) (c := c0) (show PP.funcs[fn.laws_likeTexts]? = some Tryd.f48 by kernel_rfl) (by kernel_rfl) (by kernel_rfl) (fun x σ h => by cases x <;> kernel_rfl)).trans (n0_eq k (fun x v4 h => kend x (fin v4 h)) _ h)
theorem gives {k : Nat} {a0 : GV} {a1 : GV} {v : GV} (e : run k a0 a1 [] finN = some v) : NN fn.laws_likeTexts [a0, a1] = some v := nω_of (by kernel_rfl) ((run_eq k a0 a1 [] finN).trans e)
end S.laws_likeTexts
/-! spec_Torn -/
namespace S.spec_Torn
noncomputable def c0 : Code := bodyOf Tryd.f49
@[simp] def n0 {R : Type} (k : Nat) (G : KT1 R) (v0 v1 v2 v3 : GV) (h : Heap) : Option R := (kN NN fn.spec_l16Cut [v0, v1] h).bind fun v11 => (kN NN fn.spec_l16Cut [v2, v3] h).bind fun v14 => (kbin .add v11 v14).bind fun v15 => G .ret v15 h
theorem n0_eq (G : KT1 R) (σ : GS) (h : Heap) : KC k 16 c0 σ h (fun x σ h => G x (σ 8) h) = n0 k G (σ 0) (σ 1) (σ 2) (σ 3) h := by kernel_rfl
def run {R : Type} (k : Nat) (a0 : GV) (a1 : GV) (a2 : GV) (a3 : GV) (h : Heap) (fin : GV → Heap → Option R) : Option R := n0 k (fun x v8 h => kend x (fin v8 h)) a0 a1 a2 a3 h
theorem run_eq {R : Type} (k : Nat) (a0 : GV) (a1 : GV) (a2 : GV) (a3 : GV) (h : Heap) (fin : GV → Heap → Option R) : kfun PP cfg NN HH k fn.spec_Torn [a0, a1, a2, a3] h fin = run k a0 a1 a2 a3 h fin := (kfun_eq (nt := 16) (c := c0) (show PP.funcs[fn.spec_Torn]? = some Tryd.f49 by kernel_rfl) (by kernel_rfl) (by kernel_rfl) (fun x σ h => by cases x <;> kernel_rfl)).trans (n0_eq k (fun x v8 h => kend x (fin v8 h)) _ h)
theorem gives {k : Nat} {a0 : GV} {a1 : GV} {a2 : GV} {a3 : GV} {v : GV} (e : run k a0 a1 a2 a3 [] finN = some v) : NN fn.spec_Torn [a0, a1, a2, a3] = some v := nω_of (by kernel_rfl) ((run_eq k a0 a1 a2 a3 [] finN).trans e)
end S.spec_Torn
/-! laws_pick -/
namespace S.laws_pick
noncomputable def c0 : Code := bodyOf Tryd.f52
noncomputable def c1 : Code := cR c0
noncomputable def c2 : Code := cR c1
noncomputable def c3 : Code := cR c2
@[simp] def n3 {R : Type} (k : Nat) (G : KT1 R) (v2 v7 : GV) (h : Heap) : Option R := (kbin .rem v7 v2).bind fun v33 => G .ret v33 h
theorem n3_eq (G : KT1 R) (σ : GS) (h : Heap) : KC k 34 c3 σ h (fun x σ h => G x (σ 6) h) = n3 k G (σ 2) (σ 7) h := by kernel_rfl
noncomputable def c4 : Code := cL c2
noncomputable def c5 : Code := cR c4
noncomputable def c6 : Code := cL c5
noncomputable def c7 : Code := cL c6
noncomputable def c8 : Code := cR c7
noncomputable def c9 : Code := cR c8
@[simp] def n9 {R : Type} (k : Nat) (G : KT6 R) (v0 v1 v2 v6 v7 v8 : GV) (h : Heap) : Option R := (kbin .add v8 (.int .i64 1)).bind fun v19 => G .nrm v0 v1 v2 v6 v7 v19 h
theorem n9_eq (G : KT6 R) (σ : GS) (h : Heap) : KC k 34 c9 σ h (fun x σ h => G x (σ 0) (σ 1) (σ 2) (σ 6) (σ 7) (σ 8) h) = n9 k G (σ 0) (σ 1) (σ 2) (σ 6) (σ 7) (σ 8) h := by kernel_rfl
noncomputable def c10 : Code := cL c8
noncomputable def c11 : Code := cL c10
@[simp] def n11 {R : Type} (k : Nat) (G : KT6 R) (v0 v1 v2 v6 v7 v8 : GV) (h : Heap) : Option R := (kbin .mul v7 (.int .i64 127)).bind fun v21 => (kia 1 v0 v8).bind fun v24 => (kload1 h v24).bind fun v25 => (kconvI .i64 v25).bind fun v26 => (kbin .add v21 v26).bind fun v27 => (kbin .add v27 v1).bind fun v29 => (kbin .rem v29 (.int .i64 1000003)).bind fun v30 => G .nrm v0 v1 v2 v6 v30 v8 h
theorem n11_eq (G : KT6 R) (σ : GS) (h : Heap) : KC k 34 c11 σ h (fun x σ h => G x (σ 0) (σ 1) (σ 2) (σ 6) (σ 7) (σ 8) h) = n11 k G (σ 0) (σ 1) (σ 2) (σ 6) (σ 7) (σ 8) h := by kernel_rfl
@[simp] def n10 (G : KT6 R) (v0 v1 v2 v6 v7 v8 : GV) (h : Heap) : Option R := n11 k (fun x v0 v1 v2 v6 v7 v8 h => kb 1 x fun x => G x v0 v1 v2 v6 v7 v8 h) v0 v1 v2 v6 v7 v8 h
theorem n10_eq (G : KT6 R) (σ : GS) (h : Heap) : KC k 34 c10 σ h (fun x σ h => G x (σ 0) (σ 1) (σ 2) (σ 6) (σ 7) (σ 8) h) = n10 k G (σ 0) (σ 1) (σ 2) (σ 6) (σ 7) (σ 8) h := (kblock_eq (a := c11) rfl).trans (n11_eq k (fun x v0 v1 v2 v6 v7 v8 h => kb 1 x fun x => G x v0 v1 v2 v6 v7 v8 h) σ h)
@[simp] def n8 (G : KT6 R) (v0 v1 v2 v6 v7 v8 : GV) (h : Heap) : Option R := n10 k (fun x v0 v1 v2 v6 v7 v8 h => kx x (n9 k G v0 v1 v2 v6 v7 v8 h) (G x v0 v1 v2 v6 v7 v8 h)) v0 v1 v2 v6 v7 v8 h
theorem n8_eq (G : KT6 R) (σ : GS) (h : Heap) : KC k 34 c8 σ h (fun x σ h => G x (σ 0) (σ 1) (σ 2) (σ 6) (σ 7) (σ 8) h) = n8 k G (σ 0) (σ 1) (σ 2) (σ 6) (σ 7) (σ 8) h := (kseq (b := c9) rfl (fun σ h => n9_eq k G σ h)).trans (n10_eq k (fun x v0 v1 v2 v6 v7 v8 h => kx x (n9 k G v0 v1 v2 v6 v7 v8 h) (G x v0 v1 v2 v6 v7 v8 h)) σ h)
noncomputable def c12 : Code := cL c7
@[simp] def n7 (G : KT6 R) (v0 v1 v2 v6 v7 v8 : GV) (h : Heap) : Option R := (klen v0).bind fun v16 => (kbin .lss v8 v16).bind fun v17 => kcond v17 (n8 k G v0 v1 v2 v6 v7 v8 h) (G (.ext 0) v0 v1 v2 v6 v7 v8 h)
theorem n7_eq (G : KT6 R) (σ : GS) (h : Heap) : KC k 34 c7 σ h (fun x σ h => G x (σ 0) (σ 1) (σ 2) (σ 6) (σ 7) (σ 8) h) = n7 k G (σ 0) (σ 1) (σ 2) (σ 6) (σ 7) (σ 8) h := (kseq (a := c12) (b := c8) rfl (fun σ h => n8_eq k G σ h)).trans (by kernel_rfl)
def l6 {R : Type} (k : Nat) (G : KT3 R) : Nat → GV → GV → GV → GV → GV → GV → Heap → Option R
  | 0, _, _, _, _, _, _, _ => none
  | r + 1, v0, v1, v2, v6, v7, v8, h => n7 k (fun x v0 v1 v2 v6 v7 v8 h => kx x (l6 k G r v0 v1 v2 v6 v7 v8 h) (G x v2 v6 v7 h)) v0 v1 v2 v6 v7 v8 h
theorem l6_eq {R : Type} (k : Nat) (G : KT3 R) : ∀ (r : Nat) (σ : GS) (h : Heap), kloop (fun σ h K => KC k 34 c7 σ h K) r σ h (fun x σ h => G x (σ 2) (σ 6) (σ 7) h) = l6 k G r (σ 0) (σ 1) (σ 2) (σ 6) (σ 7) (σ 8) h
  | 0, _, _ => rfl
  | r + 1, σ, h => (kloop_eq (fun σ h => l6_eq k G r σ h)).trans (n7_eq k (fun x v0 v1 v2 v6 v7 v8 h => kx x (l6 k G r v0 v1 v2 v6 v7 v8 h) (G x v2 v6 v7 h)) σ h)
@[simp] def n6 (G : KT3 R) (v0 v1 v2 v6 v7 v8 : GV) (h : Heap) : Option R := l6 k G k v0 v1 v2 v6 v7 v8 h
theorem n6_eq (G : KT3 R) (σ : GS) (h : Heap) : KC k 34 c6 σ h (fun x σ h => G x (σ 2) (σ 6) (σ 7) h) = n6 k G (σ 0) (σ 1) (σ 2) (σ 6) (σ 7) (σ 8) h := (kloopc_eq (a := c7) rfl).trans (l6_eq k G k σ h)
@[simp] def n5 (G : KT3 R) (v0 v1 v2 v6 v7 v8 : GV) (h : Heap) : Option R := n6 k (fun x v2 v6 v7 h => kb 0 x fun x => G x v2 v6 v7 h) v0 v1 v2 v6 v7 v8 h
theorem n5_eq (G : KT3 R) (σ : GS) (h : Heap) : KC k 34 c5 σ h (fun x σ h => G x (σ 2) (σ 6) (σ 7) h) = n5 k G (σ 0) (σ 1) (σ 2) (σ 6) (σ 7) (σ 8) h := (kblock_eq (a := c6) rfl).trans (n6_eq k (fun x v2 v6 v7 h => kb 0 x fun x => G x v2 v6 v7 h) σ h)
noncomputable def c13 : Code := cL c4
@[simp] def n4 (G : KT3 R) (v0 v1 v2 v6 v7 : GV) (h : Heap) : Option R := n5 k G v0 v1 v2 v6 v7 (.int .i64 0) h
theorem n4_eq (G : KT3 R) (σ : GS) (h : Heap) : KC k 34 c4 σ h (fun x σ h => G x (σ 2) (σ 6) (σ 7) h) = n4 k G (σ 0) (σ 1) (σ 2) (σ 6) (σ 7) h := (kseq (a := c13) (b := c5) rfl (fun σ h => n5_eq k G σ h)).trans (by kernel_rfl)
@[simp] def n2 (G : KT1 R) (v0 v1 v2 v6 v7 : GV) (h : Heap) : Option R := n4 k (fun x v2 v6 v7 h => kx x (n3 k G v2 v7 h) (G x v6 h)) v0 v1 v2 v6 v7 h
theorem n2_eq (G : KT1 R) (σ : GS) (h : Heap) : KC k 34 c2 σ h (fun x σ h => G x (σ 6) h) = n2 k G (σ 0) (σ 1) (σ 2) (σ 6) (σ 7) h := (kseq (b := c3) rfl (fun σ h => n3_eq k G σ h)).trans (n4_eq k (fun x v2 v6 v7 h => kx x (n3 k G v2 v7 h) (G x v6 h)) σ h)
noncomputable def c14 : Code := cL c1
@[simp] def n1 (G : KT1 R) (v0 v1 v2 v6 : GV) (h : Heap) : Option R := (klen v0).bind fun v10 => (kbin .mul (.int .i64 7919) v1).bind fun v12 => (kbin .add v10 v12).bind fun v13 => n2 k G v0 v1 v2 v6 v13 h
theorem n1_eq (G : KT1 R) (σ : GS) (h : Heap) : KC k 34 c1 σ h (fun x σ h => G x (σ 6) h) = n1 k G (σ 0) (σ 1) (σ 2) (σ 6) h := (kseq (a := c14) (b := c2) rfl (fun σ h => n2_eq k G σ h)).trans (by kernel_rfl)
noncomputable def c15 : Code := cL c0
@[simp] def n0 (G : KT1 R) (v0 v1 v2 : GV) (h : Heap) : Option R := n1 k G v0 v1 v2 (.int .i64 0) h
theorem n0_eq (G : KT1 R) (σ : GS) (h : Heap) : KC k 34 c0 σ h (fun x σ h => G x (σ 6) h) = n0 k G (σ 0) (σ 1) (σ 2) h := (kseq (a := c15) (b := c1) rfl (fun σ h => n1_eq k G σ h)).trans (by kernel_rfl)
def run {R : Type} (k : Nat) (a0 : GV) (a1 : GV) (a2 : GV) (h : Heap) (fin : GV → Heap → Option R) : Option R := n0 k (fun x v6 h => kend x (fin v6 h)) a0 a1 a2 h
theorem run_eq {R : Type} (k : Nat) (a0 : GV) (a1 : GV) (a2 : GV) (h : Heap) (fin : GV → Heap → Option R) : kfun PP cfg NN HH k fn.laws_pick [a0, a1, a2] h fin = run k a0 a1 a2 h fin := (kfun_eq (nt := 34) (c := c0) (show PP.funcs[fn.laws_pick]? = some Tryd.f52 by kernel_rfl) (by kernel_rfl) (by kernel_rfl) (fun x σ h => by cases x <;> kernel_rfl)).trans (n0_eq k (fun x v6 h => kend x (fin v6 h)) _ h)
theorem gives {k : Nat} {a0 : GV} {a1 : GV} {a2 : GV} {v : GV} (e : run k a0 a1 a2 [] finN = some v) : NN fn.laws_pick [a0, a1, a2] = some v := nω_of (by kernel_rfl) ((run_eq k a0 a1 a2 [] finN).trans e)
end S.laws_pick
/-! laws_begins -/
namespace S.laws_begins
noncomputable def c0 : Code := bodyOf Tryd.f53
noncomputable def c1 : Code := cR c0
noncomputable def c2 : Code := cR c1
@[simp] def n2 {R : Type} (k : Nat) (G : KT1 R) (v4 : GV) (h : Heap) : Option R := G .ret v4 h
theorem n2_eq (G : KT1 R) (σ : GS) (h : Heap) : KC k 18 c2 σ h (fun x σ h => G x (σ 4) h) = n2 k G (σ 4) h := by kernel_rfl
noncomputable def c3 : Code := cL c1
noncomputable def o3 : Array Oper := cO c3
@[simp] def g3_2 {R : Type} (k : Nat) (G : KT1 R) (v10 v16 : GV) (h : Heap) : Option R := (kpick v10 v16 (.bool false)).bind fun v17 => G .nrm v17 h
theorem g3_2_eq (G : KT1 R) (σ : GS) (h : Heap) : kgroups PP cfg NN HH 18 o3 [(none, [12, 13])] σ h (fun σ h => G .nrm (σ 4) h) = g3_2 k G (σ 10) (σ 16) h := by kernel_rfl
@[simp] def g3_1 (G : KT1 R) (v0 v1 v10 : GV) (h : Heap) : Option R := bif tr true v10 then (klen v1).bind fun v13 => (ksl 1 v0 none (some v13) none).bind fun v14 => (kN NN fn.laws_likeTexts [v14, v1] h).bind fun v16 => g3_2 k G v10 v16 h else g3_2 k G v10 .un h
theorem g3_1_eq (G : KT1 R) (σ : GS) (h : Heap) : kgroups PP cfg NN HH 18 o3 [(some (5, true), [6, 7, 8, 9, 10, 11]), (none, [12, 13])] σ h (fun σ h => G .nrm (σ 4) h) = g3_1 k G (σ 0) (σ 1) (σ 10) h := (kgroups_cons (fun σ h => g3_2_eq k G σ h)).trans (by kernel_rfl)
@[simp] def g3_0 (G : KT1 R) (v0 v1 : GV) (h : Heap) : Option R := (klen v1).bind fun v6 => (klen v0).bind fun v8 => (kbin .leq v6 v8).bind fun v9 => g3_1 k G v0 v1 v9 h
theorem g3_0_eq (G : KT1 R) (σ : GS) (h : Heap) : kgroups PP cfg NN HH 18 o3 [(none, [0, 1, 2, 3, 4, 5]), (some (5, true), [6, 7, 8, 9, 10, 11]), (none, [12, 13])] σ h (fun σ h => G .nrm (σ 4) h) = g3_0 k G (σ 0) (σ 1) h := (kgroups_cons (fun σ h => g3_1_eq k G σ h)).trans (by kernel_rfl)
@[simp] def n3 (G : KT1 R) (v0 v1 : GV) (h : Heap) : Option R := g3_0 k G v0 v1 h
theorem n3_eq (G : KT1 R) (σ : GS) (h : Heap) : KC k 18 c3 σ h (fun x σ h => G x (σ 4) h) = n3 k G (σ 0) (σ 1) h := (kregion_eq (id := 1) (draw := false) (ops := o3) (gs := [(none, [0, 1, 2, 3, 4, 5]), (some (5, true), [6, 7, 8, 9, 10, 11]), (none, [12, 13])]) (by kernel_rfl) (by kernel_rfl) (by kernel_rfl)).trans (g3_0_eq k G σ h)
@[simp] def n1 (G : KT1 R) (v0 v1 : GV) (h : Heap) : Option R := n3 k (fun x v4 h => kx x (n2 k G v4 h) (G x v4 h)) v0 v1 h
theorem n1_eq (G : KT1 R) (σ : GS) (h : Heap) : KC k 18 c1 σ h (fun x σ h => G x (σ 4) h) = n1 k G (σ 0) (σ 1) h := (kseq (b := c2) rfl (fun σ h => n2_eq k G σ h)).trans (n3_eq k (fun x v4 h => kx x (n2 k G v4 h) (G x v4 h)) σ h)
noncomputable def c4 : Code := cL c0
@[simp] def n0 (G : KT1 R) (v0 v1 : GV) (h : Heap) : Option R := n1 k G v0 v1 h
theorem n0_eq (G : KT1 R) (σ : GS) (h : Heap) : KC k 18 c0 σ h (fun x σ h => G x (σ 4) h) = n0 k G (σ 0) (σ 1) h := (kseq (a := c4) (b := c1) rfl (fun σ h => n1_eq k G σ h)).trans (by kernel_rfl)
def run {R : Type} (k : Nat) (a0 : GV) (a1 : GV) (h : Heap) (fin : GV → Heap → Option R) : Option R := n0 k (fun x v4 h => kend x (fin v4 h)) a0 a1 h
theorem run_eq {R : Type} (k : Nat) (a0 : GV) (a1 : GV) (h : Heap) (fin : GV → Heap → Option R) : kfun PP cfg NN HH k fn.laws_begins [a0, a1] h fin = run k a0 a1 h fin := (kfun_eq (nt := 18) (c := c0) (show PP.funcs[fn.laws_begins]? = some Tryd.f53 by kernel_rfl) (by kernel_rfl) (by kernel_rfl) (fun x σ h => by cases x <;> kernel_rfl)).trans (n0_eq k (fun x v4 h => kend x (fin v4 h)) _ h)
theorem gives {k : Nat} {a0 : GV} {a1 : GV} {v : GV} (e : run k a0 a1 [] finN = some v) : NN fn.laws_begins [a0, a1] = some v := nω_of (by kernel_rfl) ((run_eq k a0 a1 [] finN).trans e)
end S.laws_begins
/-! spec_DrawGet -/
namespace S.spec_DrawGet
noncomputable def c0 : Code := bodyOf Tryd.f101
@[simp] def n0 {R : Type} (k : Nat) (G : KT1 R) (v0 : GV) (h : Heap) : Option R := (HH fn.spec_l1New [v0] h).bind fun r => kr r fun v5 h => (HH fn.spec_l1DrawBytes [v5] h).bind fun r => kr r fun v7 h => G .ret v7 h
theorem n0_eq (G : KT1 R) (σ : GS) (h : Heap) : KC k 8 c0 σ h (fun x σ h => G x (σ 2) h) = n0 k G (σ 0) h := by kernel_rfl
def run {R : Type} (k : Nat) (a0 : GV) (h : Heap) (fin : GV → Heap → Option R) : Option R := n0 k (fun x v2 h => kend x (fin v2 h)) a0 h
theorem run_eq {R : Type} (k : Nat) (a0 : GV) (h : Heap) (fin : GV → Heap → Option R) : kfun PP cfg NN HH k fn.spec_DrawGet [a0] h fin = run k a0 h fin := (kfun_eq (nt := 8) (c := c0) (show PP.funcs[fn.spec_DrawGet]? = some Tryd.f101 by kernel_rfl) (by kernel_rfl) (by kernel_rfl) (fun x σ h => by cases x <;> kernel_rfl)).trans (n0_eq k (fun x v2 h => kend x (fin v2 h)) _ h)
theorem gives {k : Nat} {a0 : GV} {v : GV} (e : run k a0 [] finN = some v) : NN fn.spec_DrawGet [a0] = some v := nω_of (by kernel_rfl) ((run_eq k a0 [] finN).trans e)
end S.spec_DrawGet
/-! spec_l16Cut -/
namespace S.spec_l16Cut
noncomputable def c0 : Code := bodyOf Tryd.f102
@[simp] def n0 {R : Type} (k : Nat) (G : KT1 R) (v0 v1 : GV) (h : Heap) : Option R := (klenS v0).bind fun v8 => (kN NN fn.spec_l1Min [v1, v8] h).bind fun v9 => (kN NN fn.spec_l1Max [(.int .i64 0), v9] h).bind fun v10 => (kslS v0 none (some v10) none).bind fun v11 => G .ret v11 h
theorem n0_eq (G : KT1 R) (σ : GS) (h : Heap) : KC k 12 c0 σ h (fun x σ h => G x (σ 4) h) = n0 k G (σ 0) (σ 1) h := by kernel_rfl
def run {R : Type} (k : Nat) (a0 : GV) (a1 : GV) (h : Heap) (fin : GV → Heap → Option R) : Option R := n0 k (fun x v4 h => kend x (fin v4 h)) a0 a1 h
theorem run_eq {R : Type} (k : Nat) (a0 : GV) (a1 : GV) (h : Heap) (fin : GV → Heap → Option R) : kfun PP cfg NN HH k fn.spec_l16Cut [a0, a1] h fin = run k a0 a1 h fin := (kfun_eq (nt := 12) (c := c0) (show PP.funcs[fn.spec_l16Cut]? = some Tryd.f102 by kernel_rfl) (by kernel_rfl) (by kernel_rfl) (fun x σ h => by cases x <;> kernel_rfl)).trans (n0_eq k (fun x v4 h => kend x (fin v4 h)) _ h)
theorem gives {k : Nat} {a0 : GV} {a1 : GV} {v : GV} (e : run k a0 a1 [] finN = some v) : NN fn.spec_l16Cut [a0, a1] = some v := nω_of (by kernel_rfl) ((run_eq k a0 a1 [] finN).trans e)
end S.spec_l16Cut
/-! impl_first -/
namespace S.impl_first
noncomputable def c0 : Code := bodyOf Tryd.f100
@[simp] def n0 {R : Type} (k : Nat) (G : KT1 R) (v0 v1 : GV) (h : Heap) : Option R := (klenS v0).bind fun v8 => (gmin v1 v8).bind fun v9 => (gmax (.int .i64 0) v9).bind fun v10 => (kslS v0 none (some v10) none).bind fun v11 => G .ret v11 h
theorem n0_eq (G : KT1 R) (σ : GS) (h : Heap) : KC k 12 c0 σ h (fun x σ h => G x (σ 4) h) = n0 k G (σ 0) (σ 1) h := by kernel_rfl
def run {R : Type} (k : Nat) (a0 : GV) (a1 : GV) (h : Heap) (fin : GV → Heap → Option R) : Option R := n0 k (fun x v4 h => kend x (fin v4 h)) a0 a1 h
theorem run_eq {R : Type} (k : Nat) (a0 : GV) (a1 : GV) (h : Heap) (fin : GV → Heap → Option R) : kfun PP cfg NN HH k fn.impl_first [a0, a1] h fin = run k a0 a1 h fin := (kfun_eq (nt := 12) (c := c0) (show PP.funcs[fn.impl_first]? = some Tryd.f100 by kernel_rfl) (by kernel_rfl) (by kernel_rfl) (fun x σ h => by cases x <;> kernel_rfl)).trans (n0_eq k (fun x v4 h => kend x (fin v4 h)) _ h)
theorem gives {k : Nat} {a0 : GV} {a1 : GV} {v : GV} (e : run k a0 a1 [] finN = some v) : NN fn.impl_first [a0, a1] = some v := nω_of (by kernel_rfl) ((run_eq k a0 a1 [] finN).trans e)
end S.impl_first
/-! spec_l1Min -/
namespace S.spec_l1Min
noncomputable def c0 : Code := bodyOf Tryd.f153
@[simp] def n0 {R : Type} (k : Nat) (G : KT1 R) (v0 v1 : GV) (h : Heap) : Option R := (kbin .lss v0 v1).bind fun v7 => kcond v7 (G .ret v0 h) (G .ret v1 h)
theorem n0_eq (G : KT1 R) (σ : GS) (h : Heap) : KC k 10 c0 σ h (fun x σ h => G x (σ 4) h) = n0 k G (σ 0) (σ 1) h := by kernel_rfl
def run {R : Type} (k : Nat) (a0 : GV) (a1 : GV) (h : Heap) (fin : GV → Heap → Option R) : Option R := n0 k (fun x v4 h => kend x (fin v4 h)) a0 a1 h
theorem run_eq {R : Type} (k : Nat) (a0 : GV) (a1 : GV) (h : Heap) (fin : GV → Heap → Option R) : kfun PP cfg NN HH k fn.spec_l1Min [a0, a1] h fin = run k a0 a1 h fin := (kfun_eq (nt := 10) (c := c0) (show PP.funcs[fn.spec_l1Min]? = some Tryd.f153 by kernel_rfl) (by kernel_rfl) (by kernel_rfl) (fun x σ h => by cases x <;> kernel_rfl)).trans (n0_eq k (fun x v4 h => kend x (fin v4 h)) _ h)
theorem gives {k : Nat} {a0 : GV} {a1 : GV} {v : GV} (e : run k a0 a1 [] finN = some v) : NN fn.spec_l1Min [a0, a1] = some v := nω_of (by kernel_rfl) ((run_eq k a0 a1 [] finN).trans e)
end S.spec_l1Min
end
end Go.Proofs.YtklhdbkaejbajaaDoor.G
