/- What these functions do, told for open values, out of the machine with continuations. Printed by a program of this session. -/
import Derived.Test.YtklhdbkaejbajaaDoorSD
import Derived.KernelRfl
namespace Go.Proofs.YtklhdbkaejbajaaDoor.G
open Go.RowKit
set_option linter.unusedVariables false
set_option maxRecDepth 100000
noncomputable section
/-! laws_FnSealed -/
namespace S.laws_FnSealed
noncomputable def c0 : Code := bodyOf Tryd.f9
noncomputable def c1 : Code := cR c0
noncomputable def c2 : Code := cR c1
noncomputable def c3 : Code := cR c2
noncomputable def c4 : Code := cR c3
noncomputable def c5 : Code := cR c4
noncomputable def c6 : Code := cR c5
noncomputable def c7 : Code := cR c6
noncomputable def c8 : Code := cR c7
noncomputable def c9 : Code := cR c8
noncomputable def c10 : Code := cR c9
noncomputable def c11 : Code := cR c10
noncomputable def c12 : Code := cR c11
noncomputable def c13 : Code := cR c12
@[simp] def n13 {R : Type} (k : Nat) (G : KT1 R) (v2 : GV) (h : Heap) : Option R := G .ret v2 h
theorem n13_eq {R : Type} (k : Nat) (G : KT1 R) (σ : GS) (h : Heap) : KC k 166 c13 σ h (fun x σ h => G x (σ 2) h) = n13 k G (σ 2) h := by kernel_rfl
noncomputable def c14 : Code := cL c12
noncomputable def o14 : Array Oper := cO c14
@[simp] def g14_8 {R : Type} (k : Nat) (G : KT1 R) (v155 v164 : GV) (h : Heap) : Option R := (kpick v155 (.bool true) v164).bind fun v165 => G .nrm v165 h
theorem g14_8_eq {R : Type} (k : Nat) (G : KT1 R) (σ : GS) (h : Heap) : kgroups PP cfg NN HH 166 o14 [(none, [20, 21])] σ h (fun σ h => G .nrm (σ 2) h) = g14_8 k G (σ 155) (σ 164) h := by kernel_rfl
@[simp] def g14_7 {R : Type} (k : Nat) (G : KT1 R) (v155 v157 v163 : GV) (h : Heap) : Option R := bif tr false v155 then (kpick v157 v163 (.bool false)).bind fun v164 => g14_8 k G v155 v164 h else g14_8 k G v155 .un h
theorem g14_7_eq0 {R : Type} (k : Nat) (G : KT1 R) (σ : GS) (h : Heap) : kgroup1 PP cfg NN HH 166 o14 (some (10, false), [19]) σ h (fun σ h => g14_8 k G (σ 155) (σ 164) h) = g14_7 k G (σ 155) (σ 157) (σ 163) h := by kernel_rfl
theorem g14_7_eq {R : Type} (k : Nat) (G : KT1 R) (σ : GS) (h : Heap) : kgroups PP cfg NN HH 166 o14 [(some (10, false), [19]), (none, [20, 21])] σ h (fun σ h => G .nrm (σ 2) h) = g14_7 k G (σ 155) (σ 157) (σ 163) h := (kgroups_cons (fun σ h => g14_8_eq k G σ h)).trans (g14_7_eq0 k G σ h)
@[simp] def g14_6 {R : Type} (k : Nat) (G : KT1 R) (v16 v17 v18 v19 v155 v157 : GV) (h : Heap) : Option R := bif tr true v157 then (kN NN fn.impl_Sealed [v16, v18, v19] h).bind fun v161 => (kbin .eql v161 v17).bind fun v163 => g14_7 k G v155 v157 v163 h else g14_7 k G v155 v157 .un h
theorem g14_6_eq0 {R : Type} (k : Nat) (G : KT1 R) (σ : GS) (h : Heap) : kgroup1 PP cfg NN HH 166 o14 (some (12, true), [13, 14, 15, 16, 17, 18]) σ h (fun σ h => g14_7 k G (σ 155) (σ 157) (σ 163) h) = g14_6 k G (σ 16) (σ 17) (σ 18) (σ 19) (σ 155) (σ 157) h := by kernel_rfl
theorem g14_6_eq {R : Type} (k : Nat) (G : KT1 R) (σ : GS) (h : Heap) : kgroups PP cfg NN HH 166 o14 [(some (12, true), [13, 14, 15, 16, 17, 18]), (some (10, false), [19]), (none, [20, 21])] σ h (fun σ h => G .nrm (σ 2) h) = g14_6 k G (σ 16) (σ 17) (σ 18) (σ 19) (σ 155) (σ 157) h := (kgroups_cons (fun σ h => g14_7_eq k G σ h)).trans (g14_6_eq0 k G σ h)
@[simp] def g14_5 {R : Type} (k : Nat) (G : KT1 R) (v16 v17 v18 v19 v20 v155 : GV) (h : Heap) : Option R := bif tr false v155 then g14_6 k G v16 v17 v18 v19 v155 v20 h else g14_6 k G v16 v17 v18 v19 v155 .un h
theorem g14_5_eq0 {R : Type} (k : Nat) (G : KT1 R) (σ : GS) (h : Heap) : kgroup1 PP cfg NN HH 166 o14 (some (10, false), [11, 12]) σ h (fun σ h => g14_6 k G (σ 16) (σ 17) (σ 18) (σ 19) (σ 155) (σ 157) h) = g14_5 k G (σ 16) (σ 17) (σ 18) (σ 19) (σ 20) (σ 155) h := by kernel_rfl
theorem g14_5_eq {R : Type} (k : Nat) (G : KT1 R) (σ : GS) (h : Heap) : kgroups PP cfg NN HH 166 o14 [(some (10, false), [11, 12]), (some (12, true), [13, 14, 15, 16, 17, 18]), (some (10, false), [19]), (none, [20, 21])] σ h (fun σ h => G .nrm (σ 2) h) = g14_5 k G (σ 16) (σ 17) (σ 18) (σ 19) (σ 20) (σ 155) h := (kgroups_cons (fun σ h => g14_6_eq k G σ h)).trans (g14_5_eq0 k G σ h)
@[simp] def g14_4 {R : Type} (k : Nat) (G : KT1 R) (v16 v17 v18 v19 v20 v151 v153 : GV) (h : Heap) : Option R := (kpick v151 v153 (.bool false)).bind fun v154 => g14_5 k G v16 v17 v18 v19 v20 v154 h
theorem g14_4_eq0 {R : Type} (k : Nat) (G : KT1 R) (σ : GS) (h : Heap) : kgroup1 PP cfg NN HH 166 o14 (none, [9, 10]) σ h (fun σ h => g14_5 k G (σ 16) (σ 17) (σ 18) (σ 19) (σ 20) (σ 155) h) = g14_4 k G (σ 16) (σ 17) (σ 18) (σ 19) (σ 20) (σ 151) (σ 153) h := by kernel_rfl
theorem g14_4_eq {R : Type} (k : Nat) (G : KT1 R) (σ : GS) (h : Heap) : kgroups PP cfg NN HH 166 o14 [(none, [9, 10]), (some (10, false), [11, 12]), (some (12, true), [13, 14, 15, 16, 17, 18]), (some (10, false), [19]), (none, [20, 21])] σ h (fun σ h => G .nrm (σ 2) h) = g14_4 k G (σ 16) (σ 17) (σ 18) (σ 19) (σ 20) (σ 151) (σ 153) h := (kgroups_cons (fun σ h => g14_5_eq k G σ h)).trans (g14_4_eq0 k G σ h)
@[simp] def g14_3 {R : Type} (k : Nat) (G : KT1 R) (v16 v17 v18 v19 v20 v151 : GV) (h : Heap) : Option R := bif tr true v151 then (kbin .eql v19 (.str { data := #[] })).bind fun v153 => g14_4 k G v16 v17 v18 v19 v20 v151 v153 h else g14_4 k G v16 v17 v18 v19 v20 v151 .un h
theorem g14_3_eq0 {R : Type} (k : Nat) (G : KT1 R) (σ : GS) (h : Heap) : kgroup1 PP cfg NN HH 166 o14 (some (6, true), [7, 8]) σ h (fun σ h => g14_4 k G (σ 16) (σ 17) (σ 18) (σ 19) (σ 20) (σ 151) (σ 153) h) = g14_3 k G (σ 16) (σ 17) (σ 18) (σ 19) (σ 20) (σ 151) h := by kernel_rfl
theorem g14_3_eq {R : Type} (k : Nat) (G : KT1 R) (σ : GS) (h : Heap) : kgroups PP cfg NN HH 166 o14 [(some (6, true), [7, 8]), (none, [9, 10]), (some (10, false), [11, 12]), (some (12, true), [13, 14, 15, 16, 17, 18]), (some (10, false), [19]), (none, [20, 21])] σ h (fun σ h => G .nrm (σ 2) h) = g14_3 k G (σ 16) (σ 17) (σ 18) (σ 19) (σ 20) (σ 151) h := (kgroups_cons (fun σ h => g14_4_eq k G σ h)).trans (g14_3_eq0 k G σ h)
@[simp] def g14_2 {R : Type} (k : Nat) (G : KT1 R) (v16 v17 v18 v19 v20 v147 v149 : GV) (h : Heap) : Option R := (kpick v147 v149 (.bool false)).bind fun v150 => g14_3 k G v16 v17 v18 v19 v20 v150 h
theorem g14_2_eq0 {R : Type} (k : Nat) (G : KT1 R) (σ : GS) (h : Heap) : kgroup1 PP cfg NN HH 166 o14 (none, [5, 6]) σ h (fun σ h => g14_3 k G (σ 16) (σ 17) (σ 18) (σ 19) (σ 20) (σ 151) h) = g14_2 k G (σ 16) (σ 17) (σ 18) (σ 19) (σ 20) (σ 147) (σ 149) h := by kernel_rfl
theorem g14_2_eq {R : Type} (k : Nat) (G : KT1 R) (σ : GS) (h : Heap) : kgroups PP cfg NN HH 166 o14 [(none, [5, 6]), (some (6, true), [7, 8]), (none, [9, 10]), (some (10, false), [11, 12]), (some (12, true), [13, 14, 15, 16, 17, 18]), (some (10, false), [19]), (none, [20, 21])] σ h (fun σ h => G .nrm (σ 2) h) = g14_2 k G (σ 16) (σ 17) (σ 18) (σ 19) (σ 20) (σ 147) (σ 149) h := (kgroups_cons (fun σ h => g14_3_eq k G σ h)).trans (g14_2_eq0 k G σ h)
@[simp] def g14_1 {R : Type} (k : Nat) (G : KT1 R) (v16 v17 v18 v19 v20 v147 : GV) (h : Heap) : Option R := bif tr true v147 then (kbin .eql v18 (.int .i64 (-1))).bind fun v149 => g14_2 k G v16 v17 v18 v19 v20 v147 v149 h else g14_2 k G v16 v17 v18 v19 v20 v147 .un h
theorem g14_1_eq0 {R : Type} (k : Nat) (G : KT1 R) (σ : GS) (h : Heap) : kgroup1 PP cfg NN HH 166 o14 (some (2, true), [3, 4]) σ h (fun σ h => g14_2 k G (σ 16) (σ 17) (σ 18) (σ 19) (σ 20) (σ 147) (σ 149) h) = g14_1 k G (σ 16) (σ 17) (σ 18) (σ 19) (σ 20) (σ 147) h := by kernel_rfl
theorem g14_1_eq {R : Type} (k : Nat) (G : KT1 R) (σ : GS) (h : Heap) : kgroups PP cfg NN HH 166 o14 [(some (2, true), [3, 4]), (none, [5, 6]), (some (6, true), [7, 8]), (none, [9, 10]), (some (10, false), [11, 12]), (some (12, true), [13, 14, 15, 16, 17, 18]), (some (10, false), [19]), (none, [20, 21])] σ h (fun σ h => G .nrm (σ 2) h) = g14_1 k G (σ 16) (σ 17) (σ 18) (σ 19) (σ 20) (σ 147) h := (kgroups_cons (fun σ h => g14_2_eq k G σ h)).trans (g14_1_eq0 k G σ h)
@[simp] def g14_0 {R : Type} (k : Nat) (G : KT1 R) (v16 v17 v18 v19 v20 : GV) (h : Heap) : Option R := (kun .not v20).bind fun v146 => g14_1 k G v16 v17 v18 v19 v20 v146 h
theorem g14_0_eq0 {R : Type} (k : Nat) (G : KT1 R) (σ : GS) (h : Heap) : kgroup1 PP cfg NN HH 166 o14 (none, [0, 1, 2]) σ h (fun σ h => g14_1 k G (σ 16) (σ 17) (σ 18) (σ 19) (σ 20) (σ 147) h) = g14_0 k G (σ 16) (σ 17) (σ 18) (σ 19) (σ 20) h := by kernel_rfl
theorem g14_0_eq {R : Type} (k : Nat) (G : KT1 R) (σ : GS) (h : Heap) : kgroups PP cfg NN HH 166 o14 [(none, [0, 1, 2]), (some (2, true), [3, 4]), (none, [5, 6]), (some (6, true), [7, 8]), (none, [9, 10]), (some (10, false), [11, 12]), (some (12, true), [13, 14, 15, 16, 17, 18]), (some (10, false), [19]), (none, [20, 21])] σ h (fun σ h => G .nrm (σ 2) h) = g14_0 k G (σ 16) (σ 17) (σ 18) (σ 19) (σ 20) h := (kgroups_cons (fun σ h => g14_1_eq k G σ h)).trans (g14_0_eq0 k G σ h)
@[simp] def n14 {R : Type} (k : Nat) (G : KT1 R) (v16 v17 v18 v19 v20 : GV) (h : Heap) : Option R := g14_0 k G v16 v17 v18 v19 v20 h
theorem n14_eq {R : Type} (k : Nat) (G : KT1 R) (σ : GS) (h : Heap) : KC k 166 c14 σ h (fun x σ h => G x (σ 2) h) = n14 k G (σ 16) (σ 17) (σ 18) (σ 19) (σ 20) h := (kregion_eq (id := 19) (draw := false) (ops := o14) (gs := [(none, [0, 1, 2]), (some (2, true), [3, 4]), (none, [5, 6]), (some (6, true), [7, 8]), (none, [9, 10]), (some (10, false), [11, 12]), (some (12, true), [13, 14, 15, 16, 17, 18]), (some (10, false), [19]), (none, [20, 21])]) (by kernel_rfl) (by kernel_rfl) (by kernel_rfl)).trans (g14_0_eq k G σ h)
@[simp] def n12 {R : Type} (k : Nat) (G : KT1 R) (v16 v17 v18 v19 v20 : GV) (h : Heap) : Option R := n14 k (fun x v2 h => kx x (n13 k G v2 h) (G x v2 h)) v16 v17 v18 v19 v20 h
theorem n12_eq {R : Type} (k : Nat) (G : KT1 R) (σ : GS) (h : Heap) : KC k 166 c12 σ h (fun x σ h => G x (σ 2) h) = n12 k G (σ 16) (σ 17) (σ 18) (σ 19) (σ 20) h := (kseq (b := c13) rfl (fun σ h => n13_eq k G σ h)).trans (n14_eq k (fun x v2 h => kx x (n13 k G v2 h) (G x v2 h)) σ h)
noncomputable def c15 : Code := cL c11
noncomputable def c16 : Code := cR c15
noncomputable def c17 : Code := cR c16
@[simp] def n17 {R : Type} (k : Nat) (G : KT6 R) (v2 v16 v17 v18 v19 v20 v144 : GV) (h : Heap) : Option R := kcond v144 (G .ret (.bool false) v16 v17 v18 v19 v20 h) (G .nrm v2 v16 v17 v18 v19 v20 h)
theorem n17_eq {R : Type} (k : Nat) (G : KT6 R) (σ : GS) (h : Heap) : KC k 166 c17 σ h (fun x σ h => G x (σ 2) (σ 16) (σ 17) (σ 18) (σ 19) (σ 20) h) = n17 k G (σ 2) (σ 16) (σ 17) (σ 18) (σ 19) (σ 20) (σ 144) h := by kernel_rfl
noncomputable def c18 : Code := cL c16
noncomputable def o18 : Array Oper := cO c18
@[simp] def g18_4 {R : Type} (k : Nat) (G : KT7 R) (v2 v16 v17 v18 v19 v20 v140 v143 : GV) (h : Heap) : Option R := (kpick v140 (.bool true) v143).bind fun v144 => G .nrm v2 v16 v17 v18 v19 v20 v144 h
theorem g18_4_eq {R : Type} (k : Nat) (G : KT7 R) (σ : GS) (h : Heap) : kgroups PP cfg NN HH 166 o18 [(none, [12])] σ h (fun σ h => G .nrm (σ 2) (σ 16) (σ 17) (σ 18) (σ 19) (σ 20) (σ 144) h) = g18_4 k G (σ 2) (σ 16) (σ 17) (σ 18) (σ 19) (σ 20) (σ 140) (σ 143) h := by kernel_rfl
@[simp] def g18_3 {R : Type} (k : Nat) (G : KT7 R) (v2 v16 v17 v18 v19 v20 v22 v140 : GV) (h : Heap) : Option R := bif tr false v140 then (kbin .neq v19 v22).bind fun v143 => g18_4 k G v2 v16 v17 v18 v19 v20 v140 v143 h else g18_4 k G v2 v16 v17 v18 v19 v20 v140 .un h
theorem g18_3_eq0 {R : Type} (k : Nat) (G : KT7 R) (σ : GS) (h : Heap) : kgroup1 PP cfg NN HH 166 o18 (some (8, false), [9, 10, 11]) σ h (fun σ h => g18_4 k G (σ 2) (σ 16) (σ 17) (σ 18) (σ 19) (σ 20) (σ 140) (σ 143) h) = g18_3 k G (σ 2) (σ 16) (σ 17) (σ 18) (σ 19) (σ 20) (σ 22) (σ 140) h := by kernel_rfl
theorem g18_3_eq {R : Type} (k : Nat) (G : KT7 R) (σ : GS) (h : Heap) : kgroups PP cfg NN HH 166 o18 [(some (8, false), [9, 10, 11]), (none, [12])] σ h (fun σ h => G .nrm (σ 2) (σ 16) (σ 17) (σ 18) (σ 19) (σ 20) (σ 144) h) = g18_3 k G (σ 2) (σ 16) (σ 17) (σ 18) (σ 19) (σ 20) (σ 22) (σ 140) h := (kgroups_cons (fun σ h => g18_4_eq k G σ h)).trans (g18_3_eq0 k G σ h)
@[simp] def g18_2 {R : Type} (k : Nat) (G : KT7 R) (v2 v16 v17 v18 v19 v20 v22 v135 v138 : GV) (h : Heap) : Option R := (kpick v135 (.bool true) v138).bind fun v139 => g18_3 k G v2 v16 v17 v18 v19 v20 v22 v139 h
theorem g18_2_eq0 {R : Type} (k : Nat) (G : KT7 R) (σ : GS) (h : Heap) : kgroup1 PP cfg NN HH 166 o18 (none, [7, 8]) σ h (fun σ h => g18_3 k G (σ 2) (σ 16) (σ 17) (σ 18) (σ 19) (σ 20) (σ 22) (σ 140) h) = g18_2 k G (σ 2) (σ 16) (σ 17) (σ 18) (σ 19) (σ 20) (σ 22) (σ 135) (σ 138) h := by kernel_rfl
theorem g18_2_eq {R : Type} (k : Nat) (G : KT7 R) (σ : GS) (h : Heap) : kgroups PP cfg NN HH 166 o18 [(none, [7, 8]), (some (8, false), [9, 10, 11]), (none, [12])] σ h (fun σ h => G .nrm (σ 2) (σ 16) (σ 17) (σ 18) (σ 19) (σ 20) (σ 144) h) = g18_2 k G (σ 2) (σ 16) (σ 17) (σ 18) (σ 19) (σ 20) (σ 22) (σ 135) (σ 138) h := (kgroups_cons (fun σ h => g18_3_eq k G σ h)).trans (g18_2_eq0 k G σ h)
@[simp] def g18_1 {R : Type} (k : Nat) (G : KT7 R) (v2 v16 v17 v18 v19 v20 v21 v22 v135 : GV) (h : Heap) : Option R := bif tr false v135 then (kbin .neq v18 v21).bind fun v138 => g18_2 k G v2 v16 v17 v18 v19 v20 v22 v135 v138 h else g18_2 k G v2 v16 v17 v18 v19 v20 v22 v135 .un h
theorem g18_1_eq0 {R : Type} (k : Nat) (G : KT7 R) (σ : GS) (h : Heap) : kgroup1 PP cfg NN HH 166 o18 (some (3, false), [4, 5, 6]) σ h (fun σ h => g18_2 k G (σ 2) (σ 16) (σ 17) (σ 18) (σ 19) (σ 20) (σ 22) (σ 135) (σ 138) h) = g18_1 k G (σ 2) (σ 16) (σ 17) (σ 18) (σ 19) (σ 20) (σ 21) (σ 22) (σ 135) h := by kernel_rfl
theorem g18_1_eq {R : Type} (k : Nat) (G : KT7 R) (σ : GS) (h : Heap) : kgroups PP cfg NN HH 166 o18 [(some (3, false), [4, 5, 6]), (none, [7, 8]), (some (8, false), [9, 10, 11]), (none, [12])] σ h (fun σ h => G .nrm (σ 2) (σ 16) (σ 17) (σ 18) (σ 19) (σ 20) (σ 144) h) = g18_1 k G (σ 2) (σ 16) (σ 17) (σ 18) (σ 19) (σ 20) (σ 21) (σ 22) (σ 135) h := (kgroups_cons (fun σ h => g18_2_eq k G σ h)).trans (g18_1_eq0 k G σ h)
@[simp] def g18_0 {R : Type} (k : Nat) (G : KT7 R) (v2 v16 v17 v18 v19 v20 v21 v22 v23 : GV) (h : Heap) : Option R := (keqB .neq v20 v23).bind fun v134 => g18_1 k G v2 v16 v17 v18 v19 v20 v21 v22 v134 h
theorem g18_0_eq0 {R : Type} (k : Nat) (G : KT7 R) (σ : GS) (h : Heap) : kgroup1 PP cfg NN HH 166 o18 (none, [0, 1, 2, 3]) σ h (fun σ h => g18_1 k G (σ 2) (σ 16) (σ 17) (σ 18) (σ 19) (σ 20) (σ 21) (σ 22) (σ 135) h) = g18_0 k G (σ 2) (σ 16) (σ 17) (σ 18) (σ 19) (σ 20) (σ 21) (σ 22) (σ 23) h := by kernel_rfl
theorem g18_0_eq {R : Type} (k : Nat) (G : KT7 R) (σ : GS) (h : Heap) : kgroups PP cfg NN HH 166 o18 [(none, [0, 1, 2, 3]), (some (3, false), [4, 5, 6]), (none, [7, 8]), (some (8, false), [9, 10, 11]), (none, [12])] σ h (fun σ h => G .nrm (σ 2) (σ 16) (σ 17) (σ 18) (σ 19) (σ 20) (σ 144) h) = g18_0 k G (σ 2) (σ 16) (σ 17) (σ 18) (σ 19) (σ 20) (σ 21) (σ 22) (σ 23) h := (kgroups_cons (fun σ h => g18_1_eq k G σ h)).trans (g18_0_eq0 k G σ h)
@[simp] def n18 {R : Type} (k : Nat) (G : KT7 R) (v2 v16 v17 v18 v19 v20 v21 v22 v23 : GV) (h : Heap) : Option R := g18_0 k G v2 v16 v17 v18 v19 v20 v21 v22 v23 h
theorem n18_eq {R : Type} (k : Nat) (G : KT7 R) (σ : GS) (h : Heap) : KC k 166 c18 σ h (fun x σ h => G x (σ 2) (σ 16) (σ 17) (σ 18) (σ 19) (σ 20) (σ 144) h) = n18 k G (σ 2) (σ 16) (σ 17) (σ 18) (σ 19) (σ 20) (σ 21) (σ 22) (σ 23) h := (kregion_eq (id := 17) (draw := false) (ops := o18) (gs := [(none, [0, 1, 2, 3]), (some (3, false), [4, 5, 6]), (none, [7, 8]), (some (8, false), [9, 10, 11]), (none, [12])]) (by kernel_rfl) (by kernel_rfl) (by kernel_rfl)).trans (g18_0_eq k G σ h)
@[simp] def n16 {R : Type} (k : Nat) (G : KT6 R) (v2 v16 v17 v18 v19 v20 v21 v22 v23 : GV) (h : Heap) : Option R := n18 k (fun x v2 v16 v17 v18 v19 v20 v144 h => kx x (n17 k G v2 v16 v17 v18 v19 v20 v144 h) (G x v2 v16 v17 v18 v19 v20 h)) v2 v16 v17 v18 v19 v20 v21 v22 v23 h
theorem n16_eq {R : Type} (k : Nat) (G : KT6 R) (σ : GS) (h : Heap) : KC k 166 c16 σ h (fun x σ h => G x (σ 2) (σ 16) (σ 17) (σ 18) (σ 19) (σ 20) h) = n16 k G (σ 2) (σ 16) (σ 17) (σ 18) (σ 19) (σ 20) (σ 21) (σ 22) (σ 23) h := (kseq (b := c17) rfl (fun σ h => n17_eq k G σ h)).trans (n18_eq k (fun x v2 v16 v17 v18 v19 v20 v144 h => kx x (n17 k G v2 v16 v17 v18 v19 v20 v144 h) (G x v2 v16 v17 v18 v19 v20 h)) σ h)
noncomputable def c19 : Code := cL c15
@[simp] def n15 {R : Type} (k : Nat) (G : KT6 R) (v2 v16 v17 v18 v19 v20 : GV) (h : Heap) : Option R := (kN NN fn.spec_Opened [v16, v17] h).bind fun v128 => (kxt 0 v128).bind fun v129 => (kxt 1 v128).bind fun v130 => (kxt 2 v128).bind fun v131 => n16 k G v2 v16 v17 v18 v19 v20 v129 v130 v131 h
theorem n15_eq0 {R : Type} (k : Nat) (G : KT6 R) (σ : GS) (h : Heap) : KC k 166 c19 σ h (fun x σ h => kx x (n16 k G (σ 2) (σ 16) (σ 17) (σ 18) (σ 19) (σ 20) (σ 21) (σ 22) (σ 23) h) (G x (σ 2) (σ 16) (σ 17) (σ 18) (σ 19) (σ 20) h)) = n15 k G (σ 2) (σ 16) (σ 17) (σ 18) (σ 19) (σ 20) h := by kernel_rfl
theorem n15_eq {R : Type} (k : Nat) (G : KT6 R) (σ : GS) (h : Heap) : KC k 166 c15 σ h (fun x σ h => G x (σ 2) (σ 16) (σ 17) (σ 18) (σ 19) (σ 20) h) = n15 k G (σ 2) (σ 16) (σ 17) (σ 18) (σ 19) (σ 20) h := (kseq (b := c16) rfl (fun σ h => n16_eq k G σ h)).trans (n15_eq0 k G σ h)
@[simp] def n11 {R : Type} (k : Nat) (G : KT1 R) (v2 v16 v17 v18 v19 v20 : GV) (h : Heap) : Option R := n15 k (fun x v2 v16 v17 v18 v19 v20 h => kx x (n12 k G v16 v17 v18 v19 v20 h) (G x v2 h)) v2 v16 v17 v18 v19 v20 h
theorem n11_eq {R : Type} (k : Nat) (G : KT1 R) (σ : GS) (h : Heap) : KC k 166 c11 σ h (fun x σ h => G x (σ 2) h) = n11 k G (σ 2) (σ 16) (σ 17) (σ 18) (σ 19) (σ 20) h := (kseq (b := c12) rfl (fun σ h => n12_eq k G σ h)).trans (n15_eq k (fun x v2 v16 v17 v18 v19 v20 h => kx x (n12 k G v16 v17 v18 v19 v20 h) (G x v2 h)) σ h)
noncomputable def c20 : Code := cL c10
@[simp] def n10 {R : Type} (k : Nat) (G : KT1 R) (v2 v16 v17 : GV) (h : Heap) : Option R := (kN NN fn.impl_Opened [v16, v17] h).bind fun v121 => (kxt 0 v121).bind fun v122 => (kxt 1 v121).bind fun v123 => (kxt 2 v121).bind fun v124 => n11 k G v2 v16 v17 v122 v123 v124 h
theorem n10_eq0 {R : Type} (k : Nat) (G : KT1 R) (σ : GS) (h : Heap) : KC k 166 c20 σ h (fun x σ h => kx x (n11 k G (σ 2) (σ 16) (σ 17) (σ 18) (σ 19) (σ 20) h) (G x (σ 2) h)) = n10 k G (σ 2) (σ 16) (σ 17) h := by kernel_rfl
theorem n10_eq {R : Type} (k : Nat) (G : KT1 R) (σ : GS) (h : Heap) : KC k 166 c10 σ h (fun x σ h => G x (σ 2) h) = n10 k G (σ 2) (σ 16) (σ 17) h := (kseq (b := c11) rfl (fun σ h => n11_eq k G σ h)).trans (n10_eq0 k G σ h)
noncomputable def c21 : Code := cL c9
@[simp] def n9 {R : Type} (k : Nat) (G : KT1 R) (v0 v2 : GV) (h : Heap) : Option R := (kN NN fn.spec_DrawOpened [v0] h).bind fun v115 => (kxt 0 v115).bind fun v116 => (kxt 1 v115).bind fun v117 => n10 k G v2 v116 v117 h
theorem n9_eq0 {R : Type} (k : Nat) (G : KT1 R) (σ : GS) (h : Heap) : KC k 166 c21 σ h (fun x σ h => kx x (n10 k G (σ 2) (σ 16) (σ 17) h) (G x (σ 2) h)) = n9 k G (σ 0) (σ 2) h := by kernel_rfl
theorem n9_eq {R : Type} (k : Nat) (G : KT1 R) (σ : GS) (h : Heap) : KC k 166 c9 σ h (fun x σ h => G x (σ 2) h) = n9 k G (σ 0) (σ 2) h := (kseq (b := c10) rfl (fun σ h => n10_eq k G σ h)).trans (n9_eq0 k G σ h)
noncomputable def c22 : Code := cL c8
noncomputable def c23 : Code := cR c22
noncomputable def c24 : Code := cL c23
noncomputable def c25 : Code := cR c24
noncomputable def c26 : Code := cR c25
@[simp] def n26 {R : Type} (k : Nat) (G : KT2 R) (v0 v2 v112 : GV) (h : Heap) : Option R := kcond v112 (G .ret v0 (.bool false) h) (G .nrm v0 v2 h)
theorem n26_eq {R : Type} (k : Nat) (G : KT2 R) (σ : GS) (h : Heap) : KC k 166 c26 σ h (fun x σ h => G x (σ 0) (σ 2) h) = n26 k G (σ 0) (σ 2) (σ 112) h := by kernel_rfl
noncomputable def c27 : Code := cL c25
noncomputable def o27 : Array Oper := cO c27
@[simp] def g27_4 {R : Type} (k : Nat) (G : KT3 R) (v0 v2 v108 v111 : GV) (h : Heap) : Option R := (kpick v108 (.bool true) v111).bind fun v112 => G .nrm v0 v2 v112 h
theorem g27_4_eq {R : Type} (k : Nat) (G : KT3 R) (σ : GS) (h : Heap) : kgroups PP cfg NN HH 166 o27 [(none, [11])] σ h (fun σ h => G .nrm (σ 0) (σ 2) (σ 112) h) = g27_4 k G (σ 0) (σ 2) (σ 108) (σ 111) h := by kernel_rfl
@[simp] def g27_3 {R : Type} (k : Nat) (G : KT3 R) (v0 v2 v5 v14 v108 : GV) (h : Heap) : Option R := bif tr false v108 then (kbin .neq v14 v5).bind fun v111 => g27_4 k G v0 v2 v108 v111 h else g27_4 k G v0 v2 v108 .un h
theorem g27_3_eq0 {R : Type} (k : Nat) (G : KT3 R) (σ : GS) (h : Heap) : kgroup1 PP cfg NN HH 166 o27 (some (7, false), [8, 9, 10]) σ h (fun σ h => g27_4 k G (σ 0) (σ 2) (σ 108) (σ 111) h) = g27_3 k G (σ 0) (σ 2) (σ 5) (σ 14) (σ 108) h := by kernel_rfl
theorem g27_3_eq {R : Type} (k : Nat) (G : KT3 R) (σ : GS) (h : Heap) : kgroups PP cfg NN HH 166 o27 [(some (7, false), [8, 9, 10]), (none, [11])] σ h (fun σ h => G .nrm (σ 0) (σ 2) (σ 112) h) = g27_3 k G (σ 0) (σ 2) (σ 5) (σ 14) (σ 108) h := (kgroups_cons (fun σ h => g27_4_eq k G σ h)).trans (g27_3_eq0 k G σ h)
@[simp] def g27_2 {R : Type} (k : Nat) (G : KT3 R) (v0 v2 v5 v14 v103 v106 : GV) (h : Heap) : Option R := (kpick v103 (.bool true) v106).bind fun v107 => g27_3 k G v0 v2 v5 v14 v107 h
theorem g27_2_eq0 {R : Type} (k : Nat) (G : KT3 R) (σ : GS) (h : Heap) : kgroup1 PP cfg NN HH 166 o27 (none, [6, 7]) σ h (fun σ h => g27_3 k G (σ 0) (σ 2) (σ 5) (σ 14) (σ 108) h) = g27_2 k G (σ 0) (σ 2) (σ 5) (σ 14) (σ 103) (σ 106) h := by kernel_rfl
theorem g27_2_eq {R : Type} (k : Nat) (G : KT3 R) (σ : GS) (h : Heap) : kgroups PP cfg NN HH 166 o27 [(none, [6, 7]), (some (7, false), [8, 9, 10]), (none, [11])] σ h (fun σ h => G .nrm (σ 0) (σ 2) (σ 112) h) = g27_2 k G (σ 0) (σ 2) (σ 5) (σ 14) (σ 103) (σ 106) h := (kgroups_cons (fun σ h => g27_3_eq k G σ h)).trans (g27_2_eq0 k G σ h)
@[simp] def g27_1 {R : Type} (k : Nat) (G : KT3 R) (v0 v2 v4 v5 v13 v14 v103 : GV) (h : Heap) : Option R := bif tr false v103 then (kbin .neq v13 v4).bind fun v106 => g27_2 k G v0 v2 v5 v14 v103 v106 h else g27_2 k G v0 v2 v5 v14 v103 .un h
theorem g27_1_eq0 {R : Type} (k : Nat) (G : KT3 R) (σ : GS) (h : Heap) : kgroup1 PP cfg NN HH 166 o27 (some (2, false), [3, 4, 5]) σ h (fun σ h => g27_2 k G (σ 0) (σ 2) (σ 5) (σ 14) (σ 103) (σ 106) h) = g27_1 k G (σ 0) (σ 2) (σ 4) (σ 5) (σ 13) (σ 14) (σ 103) h := by kernel_rfl
theorem g27_1_eq {R : Type} (k : Nat) (G : KT3 R) (σ : GS) (h : Heap) : kgroups PP cfg NN HH 166 o27 [(some (2, false), [3, 4, 5]), (none, [6, 7]), (some (7, false), [8, 9, 10]), (none, [11])] σ h (fun σ h => G .nrm (σ 0) (σ 2) (σ 112) h) = g27_1 k G (σ 0) (σ 2) (σ 4) (σ 5) (σ 13) (σ 14) (σ 103) h := (kgroups_cons (fun σ h => g27_2_eq k G σ h)).trans (g27_1_eq0 k G σ h)
@[simp] def g27_0 {R : Type} (k : Nat) (G : KT3 R) (v0 v2 v4 v5 v13 v14 v15 : GV) (h : Heap) : Option R := (kun .not v15).bind fun v102 => g27_1 k G v0 v2 v4 v5 v13 v14 v102 h
theorem g27_0_eq0 {R : Type} (k : Nat) (G : KT3 R) (σ : GS) (h : Heap) : kgroup1 PP cfg NN HH 166 o27 (none, [0, 1, 2]) σ h (fun σ h => g27_1 k G (σ 0) (σ 2) (σ 4) (σ 5) (σ 13) (σ 14) (σ 103) h) = g27_0 k G (σ 0) (σ 2) (σ 4) (σ 5) (σ 13) (σ 14) (σ 15) h := by kernel_rfl
theorem g27_0_eq {R : Type} (k : Nat) (G : KT3 R) (σ : GS) (h : Heap) : kgroups PP cfg NN HH 166 o27 [(none, [0, 1, 2]), (some (2, false), [3, 4, 5]), (none, [6, 7]), (some (7, false), [8, 9, 10]), (none, [11])] σ h (fun σ h => G .nrm (σ 0) (σ 2) (σ 112) h) = g27_0 k G (σ 0) (σ 2) (σ 4) (σ 5) (σ 13) (σ 14) (σ 15) h := (kgroups_cons (fun σ h => g27_1_eq k G σ h)).trans (g27_0_eq0 k G σ h)
@[simp] def n27 {R : Type} (k : Nat) (G : KT3 R) (v0 v2 v4 v5 v13 v14 v15 : GV) (h : Heap) : Option R := g27_0 k G v0 v2 v4 v5 v13 v14 v15 h
theorem n27_eq {R : Type} (k : Nat) (G : KT3 R) (σ : GS) (h : Heap) : KC k 166 c27 σ h (fun x σ h => G x (σ 0) (σ 2) (σ 112) h) = n27 k G (σ 0) (σ 2) (σ 4) (σ 5) (σ 13) (σ 14) (σ 15) h := (kregion_eq (id := 12) (draw := false) (ops := o27) (gs := [(none, [0, 1, 2]), (some (2, false), [3, 4, 5]), (none, [6, 7]), (some (7, false), [8, 9, 10]), (none, [11])]) (by kernel_rfl) (by kernel_rfl) (by kernel_rfl)).trans (g27_0_eq k G σ h)
@[simp] def n25 {R : Type} (k : Nat) (G : KT2 R) (v0 v2 v4 v5 v13 v14 v15 : GV) (h : Heap) : Option R := n27 k (fun x v0 v2 v112 h => kx x (n26 k G v0 v2 v112 h) (G x v0 v2 h)) v0 v2 v4 v5 v13 v14 v15 h
theorem n25_eq {R : Type} (k : Nat) (G : KT2 R) (σ : GS) (h : Heap) : KC k 166 c25 σ h (fun x σ h => G x (σ 0) (σ 2) h) = n25 k G (σ 0) (σ 2) (σ 4) (σ 5) (σ 13) (σ 14) (σ 15) h := (kseq (b := c26) rfl (fun σ h => n26_eq k G σ h)).trans (n27_eq k (fun x v0 v2 v112 h => kx x (n26 k G v0 v2 v112 h) (G x v0 v2 h)) σ h)
noncomputable def c28 : Code := cL c24
@[simp] def n24 {R : Type} (k : Nat) (G : KT2 R) (v0 v2 v3 v4 v5 v6 : GV) (h : Heap) : Option R := (kN NN fn.impl_Opened [v3, v6] h).bind fun v97 => (kxt 0 v97).bind fun v98 => (kxt 1 v97).bind fun v99 => (kxt 2 v97).bind fun v100 => n25 k G v0 v2 v4 v5 v98 v99 v100 h
theorem n24_eq0 {R : Type} (k : Nat) (G : KT2 R) (σ : GS) (h : Heap) : KC k 166 c28 σ h (fun x σ h => kx x (n25 k G (σ 0) (σ 2) (σ 4) (σ 5) (σ 13) (σ 14) (σ 15) h) (G x (σ 0) (σ 2) h)) = n24 k G (σ 0) (σ 2) (σ 3) (σ 4) (σ 5) (σ 6) h := by kernel_rfl
theorem n24_eq {R : Type} (k : Nat) (G : KT2 R) (σ : GS) (h : Heap) : KC k 166 c24 σ h (fun x σ h => G x (σ 0) (σ 2) h) = n24 k G (σ 0) (σ 2) (σ 3) (σ 4) (σ 5) (σ 6) h := (kseq (b := c25) rfl (fun σ h => n25_eq k G σ h)).trans (n24_eq0 k G σ h)
noncomputable def c29 : Code := cR c23
@[simp] def n29 {R : Type} (k : Nat) (G : KT2 R) (v0 v2 : GV) (h : Heap) : Option R := G .nrm v0 v2 h
theorem n29_eq {R : Type} (k : Nat) (G : KT2 R) (σ : GS) (h : Heap) : KC k 166 c29 σ h (fun x σ h => G x (σ 0) (σ 2) h) = n29 k G (σ 0) (σ 2) h := by kernel_rfl
@[simp] def n23 {R : Type} (k : Nat) (G : KT2 R) (v0 v2 v3 v4 v5 v6 v93 : GV) (h : Heap) : Option R := kcond v93 (n24 k G v0 v2 v3 v4 v5 v6 h) (n29 k G v0 v2 h)
theorem n23_eq {R : Type} (k : Nat) (G : KT2 R) (σ : GS) (h : Heap) : KC k 166 c23 σ h (fun x σ h => G x (σ 0) (σ 2) h) = n23 k G (σ 0) (σ 2) (σ 3) (σ 4) (σ 5) (σ 6) (σ 93) h := (kcond_eq (a := c24) (b := c29) rfl (by rfl)).trans (congr (congrArg (kcond (σ 93)) (n24_eq k G σ h)) (n29_eq k G σ h))
noncomputable def c30 : Code := cL c22
@[simp] def n22 {R : Type} (k : Nat) (G : KT2 R) (v0 v2 v3 v4 v5 v6 : GV) (h : Heap) : Option R := (kbin .neq v6 (.str { data := #[] })).bind fun v93 => n23 k G v0 v2 v3 v4 v5 v6 v93 h
theorem n22_eq0 {R : Type} (k : Nat) (G : KT2 R) (σ : GS) (h : Heap) : KC k 166 c30 σ h (fun x σ h => kx x (n23 k G (σ 0) (σ 2) (σ 3) (σ 4) (σ 5) (σ 6) (σ 93) h) (G x (σ 0) (σ 2) h)) = n22 k G (σ 0) (σ 2) (σ 3) (σ 4) (σ 5) (σ 6) h := by kernel_rfl
theorem n22_eq {R : Type} (k : Nat) (G : KT2 R) (σ : GS) (h : Heap) : KC k 166 c22 σ h (fun x σ h => G x (σ 0) (σ 2) h) = n22 k G (σ 0) (σ 2) (σ 3) (σ 4) (σ 5) (σ 6) h := (kseq (b := c23) rfl (fun σ h => n23_eq k G σ h)).trans (n22_eq0 k G σ h)
@[simp] def n8 {R : Type} (k : Nat) (G : KT1 R) (v0 v2 v3 v4 v5 v6 : GV) (h : Heap) : Option R := n22 k (fun x v0 v2 h => kx x (n9 k G v0 v2 h) (G x v2 h)) v0 v2 v3 v4 v5 v6 h
theorem n8_eq {R : Type} (k : Nat) (G : KT1 R) (σ : GS) (h : Heap) : KC k 166 c8 σ h (fun x σ h => G x (σ 2) h) = n8 k G (σ 0) (σ 2) (σ 3) (σ 4) (σ 5) (σ 6) h := (kseq (b := c9) rfl (fun σ h => n9_eq k G σ h)).trans (n22_eq k (fun x v0 v2 h => kx x (n9 k G v0 v2 h) (G x v2 h)) σ h)
noncomputable def c31 : Code := cL c7
noncomputable def c32 : Code := cR c31
@[simp] def n32 {R : Type} (k : Nat) (G : KT6 R) (v0 v2 v3 v4 v5 v6 v91 : GV) (h : Heap) : Option R := kcond v91 (G .ret v0 (.bool false) v3 v4 v5 v6 h) (G .nrm v0 v2 v3 v4 v5 v6 h)
theorem n32_eq {R : Type} (k : Nat) (G : KT6 R) (σ : GS) (h : Heap) : KC k 166 c32 σ h (fun x σ h => G x (σ 0) (σ 2) (σ 3) (σ 4) (σ 5) (σ 6) h) = n32 k G (σ 0) (σ 2) (σ 3) (σ 4) (σ 5) (σ 6) (σ 91) h := by kernel_rfl
noncomputable def c33 : Code := cL c31
noncomputable def o33 : Array Oper := cO c33
@[simp] def g33_8 {R : Type} (k : Nat) (G : KT7 R) (v0 v2 v3 v4 v5 v6 v85 v90 : GV) (h : Heap) : Option R := (kpick v85 (.bool true) v90).bind fun v91 => G .nrm v0 v2 v3 v4 v5 v6 v91 h
theorem g33_8_eq {R : Type} (k : Nat) (G : KT7 R) (σ : GS) (h : Heap) : kgroups PP cfg NN HH 166 o33 [(none, [40])] σ h (fun σ h => G .nrm (σ 0) (σ 2) (σ 3) (σ 4) (σ 5) (σ 6) (σ 91) h) = g33_8 k G (σ 0) (σ 2) (σ 3) (σ 4) (σ 5) (σ 6) (σ 85) (σ 90) h := by kernel_rfl
@[simp] def g33_7 {R : Type} (k : Nat) (G : KT7 R) (v0 v2 v3 v4 v5 v6 v7 v85 : GV) (h : Heap) : Option R := bif tr false v85 then (kbin .neq v6 (.str { data := #[] })).bind fun v87 => (kbin .geq v7 (.int .i64 0)).bind fun v89 => (keqB .neq v87 v89).bind fun v90 => g33_8 k G v0 v2 v3 v4 v5 v6 v85 v90 h else g33_8 k G v0 v2 v3 v4 v5 v6 v85 .un h
theorem g33_7_eq0 {R : Type} (k : Nat) (G : KT7 R) (σ : GS) (h : Heap) : kgroup1 PP cfg NN HH 166 o33 (some (34, false), [35, 36, 37, 38, 39]) σ h (fun σ h => g33_8 k G (σ 0) (σ 2) (σ 3) (σ 4) (σ 5) (σ 6) (σ 85) (σ 90) h) = g33_7 k G (σ 0) (σ 2) (σ 3) (σ 4) (σ 5) (σ 6) (σ 7) (σ 85) h := by kernel_rfl
theorem g33_7_eq {R : Type} (k : Nat) (G : KT7 R) (σ : GS) (h : Heap) : kgroups PP cfg NN HH 166 o33 [(some (34, false), [35, 36, 37, 38, 39]), (none, [40])] σ h (fun σ h => G .nrm (σ 0) (σ 2) (σ 3) (σ 4) (σ 5) (σ 6) (σ 91) h) = g33_7 k G (σ 0) (σ 2) (σ 3) (σ 4) (σ 5) (σ 6) (σ 7) (σ 85) h := (kgroups_cons (fun σ h => g33_8_eq k G σ h)).trans (g33_7_eq0 k G σ h)
@[simp] def g33_6 {R : Type} (k : Nat) (G : KT7 R) (v0 v2 v3 v4 v5 v6 v7 v74 v83 : GV) (h : Heap) : Option R := (kpick v74 (.bool true) v83).bind fun v84 => g33_7 k G v0 v2 v3 v4 v5 v6 v7 v84 h
theorem g33_6_eq0 {R : Type} (k : Nat) (G : KT7 R) (σ : GS) (h : Heap) : kgroup1 PP cfg NN HH 166 o33 (none, [33, 34]) σ h (fun σ h => g33_7 k G (σ 0) (σ 2) (σ 3) (σ 4) (σ 5) (σ 6) (σ 7) (σ 85) h) = g33_6 k G (σ 0) (σ 2) (σ 3) (σ 4) (σ 5) (σ 6) (σ 7) (σ 74) (σ 83) h := by kernel_rfl
theorem g33_6_eq {R : Type} (k : Nat) (G : KT7 R) (σ : GS) (h : Heap) : kgroups PP cfg NN HH 166 o33 [(none, [33, 34]), (some (34, false), [35, 36, 37, 38, 39]), (none, [40])] σ h (fun σ h => G .nrm (σ 0) (σ 2) (σ 3) (σ 4) (σ 5) (σ 6) (σ 91) h) = g33_6 k G (σ 0) (σ 2) (σ 3) (σ 4) (σ 5) (σ 6) (σ 7) (σ 74) (σ 83) h := (kgroups_cons (fun σ h => g33_7_eq k G σ h)).trans (g33_6_eq0 k G σ h)
@[simp] def g33_5 {R : Type} (k : Nat) (G : KT7 R) (v0 v2 v3 v4 v5 v6 v7 v10 v11 v12 v74 : GV) (h : Heap) : Option R := bif tr false v74 then (kN NN fn.impl_Stream [v10, v11, v12] h).bind fun v78 => (kN NN fn.spec_Stream [v10, v11, v12] h).bind fun v82 => (kbin .neq v78 v82).bind fun v83 => g33_6 k G v0 v2 v3 v4 v5 v6 v7 v74 v83 h else g33_6 k G v0 v2 v3 v4 v5 v6 v7 v74 .un h
theorem g33_5_eq0 {R : Type} (k : Nat) (G : KT7 R) (σ : GS) (h : Heap) : kgroup1 PP cfg NN HH 166 o33 (some (23, false), [24, 25, 26, 27, 28, 29, 30, 31, 32]) σ h (fun σ h => g33_6 k G (σ 0) (σ 2) (σ 3) (σ 4) (σ 5) (σ 6) (σ 7) (σ 74) (σ 83) h) = g33_5 k G (σ 0) (σ 2) (σ 3) (σ 4) (σ 5) (σ 6) (σ 7) (σ 10) (σ 11) (σ 12) (σ 74) h := by kernel_rfl
theorem g33_5_eq {R : Type} (k : Nat) (G : KT7 R) (σ : GS) (h : Heap) : kgroups PP cfg NN HH 166 o33 [(some (23, false), [24, 25, 26, 27, 28, 29, 30, 31, 32]), (none, [33, 34]), (some (34, false), [35, 36, 37, 38, 39]), (none, [40])] σ h (fun σ h => G .nrm (σ 0) (σ 2) (σ 3) (σ 4) (σ 5) (σ 6) (σ 91) h) = g33_5 k G (σ 0) (σ 2) (σ 3) (σ 4) (σ 5) (σ 6) (σ 7) (σ 10) (σ 11) (σ 12) (σ 74) h := (kgroups_cons (fun σ h => g33_6_eq k G σ h)).trans (g33_5_eq0 k G σ h)
@[simp] def g33_4 {R : Type} (k : Nat) (G : KT7 R) (v0 v2 v3 v4 v5 v6 v7 v10 v11 v12 v65 v72 : GV) (h : Heap) : Option R := (kpick v65 (.bool true) v72).bind fun v73 => g33_5 k G v0 v2 v3 v4 v5 v6 v7 v10 v11 v12 v73 h
theorem g33_4_eq0 {R : Type} (k : Nat) (G : KT7 R) (σ : GS) (h : Heap) : kgroup1 PP cfg NN HH 166 o33 (none, [22, 23]) σ h (fun σ h => g33_5 k G (σ 0) (σ 2) (σ 3) (σ 4) (σ 5) (σ 6) (σ 7) (σ 10) (σ 11) (σ 12) (σ 74) h) = g33_4 k G (σ 0) (σ 2) (σ 3) (σ 4) (σ 5) (σ 6) (σ 7) (σ 10) (σ 11) (σ 12) (σ 65) (σ 72) h := by kernel_rfl
theorem g33_4_eq {R : Type} (k : Nat) (G : KT7 R) (σ : GS) (h : Heap) : kgroups PP cfg NN HH 166 o33 [(none, [22, 23]), (some (23, false), [24, 25, 26, 27, 28, 29, 30, 31, 32]), (none, [33, 34]), (some (34, false), [35, 36, 37, 38, 39]), (none, [40])] σ h (fun σ h => G .nrm (σ 0) (σ 2) (σ 3) (σ 4) (σ 5) (σ 6) (σ 91) h) = g33_4 k G (σ 0) (σ 2) (σ 3) (σ 4) (σ 5) (σ 6) (σ 7) (σ 10) (σ 11) (σ 12) (σ 65) (σ 72) h := (kgroups_cons (fun σ h => g33_5_eq k G σ h)).trans (g33_4_eq0 k G σ h)
@[simp] def g33_3 {R : Type} (k : Nat) (G : KT7 R) (v0 v2 v3 v4 v5 v6 v7 v8 v9 v10 v11 v12 v65 : GV) (h : Heap) : Option R := bif tr false v65 then (kN NN fn.impl_Mix [v8, v9] h).bind fun v68 => (kN NN fn.spec_Mix [v8, v9] h).bind fun v71 => (kbin .neq v68 v71).bind fun v72 => g33_4 k G v0 v2 v3 v4 v5 v6 v7 v10 v11 v12 v65 v72 h else g33_4 k G v0 v2 v3 v4 v5 v6 v7 v10 v11 v12 v65 .un h
theorem g33_3_eq0 {R : Type} (k : Nat) (G : KT7 R) (σ : GS) (h : Heap) : kgroup1 PP cfg NN HH 166 o33 (some (14, false), [15, 16, 17, 18, 19, 20, 21]) σ h (fun σ h => g33_4 k G (σ 0) (σ 2) (σ 3) (σ 4) (σ 5) (σ 6) (σ 7) (σ 10) (σ 11) (σ 12) (σ 65) (σ 72) h) = g33_3 k G (σ 0) (σ 2) (σ 3) (σ 4) (σ 5) (σ 6) (σ 7) (σ 8) (σ 9) (σ 10) (σ 11) (σ 12) (σ 65) h := by kernel_rfl
theorem g33_3_eq {R : Type} (k : Nat) (G : KT7 R) (σ : GS) (h : Heap) : kgroups PP cfg NN HH 166 o33 [(some (14, false), [15, 16, 17, 18, 19, 20, 21]), (none, [22, 23]), (some (23, false), [24, 25, 26, 27, 28, 29, 30, 31, 32]), (none, [33, 34]), (some (34, false), [35, 36, 37, 38, 39]), (none, [40])] σ h (fun σ h => G .nrm (σ 0) (σ 2) (σ 3) (σ 4) (σ 5) (σ 6) (σ 91) h) = g33_3 k G (σ 0) (σ 2) (σ 3) (σ 4) (σ 5) (σ 6) (σ 7) (σ 8) (σ 9) (σ 10) (σ 11) (σ 12) (σ 65) h := (kgroups_cons (fun σ h => g33_4_eq k G σ h)).trans (g33_3_eq0 k G σ h)
@[simp] def g33_2 {R : Type} (k : Nat) (G : KT7 R) (v0 v2 v3 v4 v5 v6 v7 v8 v9 v10 v11 v12 v57 v63 : GV) (h : Heap) : Option R := (kpick v57 (.bool true) v63).bind fun v64 => g33_3 k G v0 v2 v3 v4 v5 v6 v7 v8 v9 v10 v11 v12 v64 h
theorem g33_2_eq0 {R : Type} (k : Nat) (G : KT7 R) (σ : GS) (h : Heap) : kgroup1 PP cfg NN HH 166 o33 (none, [13, 14]) σ h (fun σ h => g33_3 k G (σ 0) (σ 2) (σ 3) (σ 4) (σ 5) (σ 6) (σ 7) (σ 8) (σ 9) (σ 10) (σ 11) (σ 12) (σ 65) h) = g33_2 k G (σ 0) (σ 2) (σ 3) (σ 4) (σ 5) (σ 6) (σ 7) (σ 8) (σ 9) (σ 10) (σ 11) (σ 12) (σ 57) (σ 63) h := by kernel_rfl
theorem g33_2_eq {R : Type} (k : Nat) (G : KT7 R) (σ : GS) (h : Heap) : kgroups PP cfg NN HH 166 o33 [(none, [13, 14]), (some (14, false), [15, 16, 17, 18, 19, 20, 21]), (none, [22, 23]), (some (23, false), [24, 25, 26, 27, 28, 29, 30, 31, 32]), (none, [33, 34]), (some (34, false), [35, 36, 37, 38, 39]), (none, [40])] σ h (fun σ h => G .nrm (σ 0) (σ 2) (σ 3) (σ 4) (σ 5) (σ 6) (σ 91) h) = g33_2 k G (σ 0) (σ 2) (σ 3) (σ 4) (σ 5) (σ 6) (σ 7) (σ 8) (σ 9) (σ 10) (σ 11) (σ 12) (σ 57) (σ 63) h := (kgroups_cons (fun σ h => g33_3_eq k G σ h)).trans (g33_2_eq0 k G σ h)
@[simp] def g33_1 {R : Type} (k : Nat) (G : KT7 R) (v0 v2 v3 v4 v5 v6 v7 v8 v9 v10 v11 v12 v57 : GV) (h : Heap) : Option R := bif tr false v57 then (kN NN fn.spec_Mark [v3, v4, v5] h).bind fun v62 => (kbin .neq v7 v62).bind fun v63 => g33_2 k G v0 v2 v3 v4 v5 v6 v7 v8 v9 v10 v11 v12 v57 v63 h else g33_2 k G v0 v2 v3 v4 v5 v6 v7 v8 v9 v10 v11 v12 v57 .un h
theorem g33_1_eq0 {R : Type} (k : Nat) (G : KT7 R) (σ : GS) (h : Heap) : kgroup1 PP cfg NN HH 166 o33 (some (6, false), [7, 8, 9, 10, 11, 12]) σ h (fun σ h => g33_2 k G (σ 0) (σ 2) (σ 3) (σ 4) (σ 5) (σ 6) (σ 7) (σ 8) (σ 9) (σ 10) (σ 11) (σ 12) (σ 57) (σ 63) h) = g33_1 k G (σ 0) (σ 2) (σ 3) (σ 4) (σ 5) (σ 6) (σ 7) (σ 8) (σ 9) (σ 10) (σ 11) (σ 12) (σ 57) h := by kernel_rfl
theorem g33_1_eq {R : Type} (k : Nat) (G : KT7 R) (σ : GS) (h : Heap) : kgroups PP cfg NN HH 166 o33 [(some (6, false), [7, 8, 9, 10, 11, 12]), (none, [13, 14]), (some (14, false), [15, 16, 17, 18, 19, 20, 21]), (none, [22, 23]), (some (23, false), [24, 25, 26, 27, 28, 29, 30, 31, 32]), (none, [33, 34]), (some (34, false), [35, 36, 37, 38, 39]), (none, [40])] σ h (fun σ h => G .nrm (σ 0) (σ 2) (σ 3) (σ 4) (σ 5) (σ 6) (σ 91) h) = g33_1 k G (σ 0) (σ 2) (σ 3) (σ 4) (σ 5) (σ 6) (σ 7) (σ 8) (σ 9) (σ 10) (σ 11) (σ 12) (σ 57) h := (kgroups_cons (fun σ h => g33_2_eq k G σ h)).trans (g33_1_eq0 k G σ h)
@[simp] def g33_0 {R : Type} (k : Nat) (G : KT7 R) (v0 v2 v3 v4 v5 v6 v7 v8 v9 v10 v11 v12 : GV) (h : Heap) : Option R := (kN NN fn.spec_Sealed [v3, v4, v5] h).bind fun v55 => (kbin .neq v6 v55).bind fun v56 => g33_1 k G v0 v2 v3 v4 v5 v6 v7 v8 v9 v10 v11 v12 v56 h
theorem g33_0_eq0 {R : Type} (k : Nat) (G : KT7 R) (σ : GS) (h : Heap) : kgroup1 PP cfg NN HH 166 o33 (none, [0, 1, 2, 3, 4, 5, 6]) σ h (fun σ h => g33_1 k G (σ 0) (σ 2) (σ 3) (σ 4) (σ 5) (σ 6) (σ 7) (σ 8) (σ 9) (σ 10) (σ 11) (σ 12) (σ 57) h) = g33_0 k G (σ 0) (σ 2) (σ 3) (σ 4) (σ 5) (σ 6) (σ 7) (σ 8) (σ 9) (σ 10) (σ 11) (σ 12) h := by kernel_rfl
theorem g33_0_eq {R : Type} (k : Nat) (G : KT7 R) (σ : GS) (h : Heap) : kgroups PP cfg NN HH 166 o33 [(none, [0, 1, 2, 3, 4, 5, 6]), (some (6, false), [7, 8, 9, 10, 11, 12]), (none, [13, 14]), (some (14, false), [15, 16, 17, 18, 19, 20, 21]), (none, [22, 23]), (some (23, false), [24, 25, 26, 27, 28, 29, 30, 31, 32]), (none, [33, 34]), (some (34, false), [35, 36, 37, 38, 39]), (none, [40])] σ h (fun σ h => G .nrm (σ 0) (σ 2) (σ 3) (σ 4) (σ 5) (σ 6) (σ 91) h) = g33_0 k G (σ 0) (σ 2) (σ 3) (σ 4) (σ 5) (σ 6) (σ 7) (σ 8) (σ 9) (σ 10) (σ 11) (σ 12) h := (kgroups_cons (fun σ h => g33_1_eq k G σ h)).trans (g33_0_eq0 k G σ h)
@[simp] def n33 {R : Type} (k : Nat) (G : KT7 R) (v0 v2 v3 v4 v5 v6 v7 v8 v9 v10 v11 v12 : GV) (h : Heap) : Option R := g33_0 k G v0 v2 v3 v4 v5 v6 v7 v8 v9 v10 v11 v12 h
theorem n33_eq {R : Type} (k : Nat) (G : KT7 R) (σ : GS) (h : Heap) : KC k 166 c33 σ h (fun x σ h => G x (σ 0) (σ 2) (σ 3) (σ 4) (σ 5) (σ 6) (σ 91) h) = n33 k G (σ 0) (σ 2) (σ 3) (σ 4) (σ 5) (σ 6) (σ 7) (σ 8) (σ 9) (σ 10) (σ 11) (σ 12) h := (kregion_eq (id := 8) (draw := false) (ops := o33) (gs := [(none, [0, 1, 2, 3, 4, 5, 6]), (some (6, false), [7, 8, 9, 10, 11, 12]), (none, [13, 14]), (some (14, false), [15, 16, 17, 18, 19, 20, 21]), (none, [22, 23]), (some (23, false), [24, 25, 26, 27, 28, 29, 30, 31, 32]), (none, [33, 34]), (some (34, false), [35, 36, 37, 38, 39]), (none, [40])]) (by kernel_rfl) (by kernel_rfl) (by kernel_rfl)).trans (g33_0_eq k G σ h)
@[simp] def n31 {R : Type} (k : Nat) (G : KT6 R) (v0 v2 v3 v4 v5 v6 v7 v8 v9 v10 v11 v12 : GV) (h : Heap) : Option R := n33 k (fun x v0 v2 v3 v4 v5 v6 v91 h => kx x (n32 k G v0 v2 v3 v4 v5 v6 v91 h) (G x v0 v2 v3 v4 v5 v6 h)) v0 v2 v3 v4 v5 v6 v7 v8 v9 v10 v11 v12 h
theorem n31_eq {R : Type} (k : Nat) (G : KT6 R) (σ : GS) (h : Heap) : KC k 166 c31 σ h (fun x σ h => G x (σ 0) (σ 2) (σ 3) (σ 4) (σ 5) (σ 6) h) = n31 k G (σ 0) (σ 2) (σ 3) (σ 4) (σ 5) (σ 6) (σ 7) (σ 8) (σ 9) (σ 10) (σ 11) (σ 12) h := (kseq (b := c32) rfl (fun σ h => n32_eq k G σ h)).trans (n33_eq k (fun x v0 v2 v3 v4 v5 v6 v91 h => kx x (n32 k G v0 v2 v3 v4 v5 v6 v91 h) (G x v0 v2 v3 v4 v5 v6 h)) σ h)
@[simp] def n7 {R : Type} (k : Nat) (G : KT1 R) (v0 v2 v3 v4 v5 v6 v7 v8 v9 v10 v11 v12 : GV) (h : Heap) : Option R := n31 k (fun x v0 v2 v3 v4 v5 v6 h => kx x (n8 k G v0 v2 v3 v4 v5 v6 h) (G x v2 h)) v0 v2 v3 v4 v5 v6 v7 v8 v9 v10 v11 v12 h
theorem n7_eq {R : Type} (k : Nat) (G : KT1 R) (σ : GS) (h : Heap) : KC k 166 c7 σ h (fun x σ h => G x (σ 2) h) = n7 k G (σ 0) (σ 2) (σ 3) (σ 4) (σ 5) (σ 6) (σ 7) (σ 8) (σ 9) (σ 10) (σ 11) (σ 12) h := (kseq (b := c8) rfl (fun σ h => n8_eq k G σ h)).trans (n31_eq k (fun x v0 v2 v3 v4 v5 v6 h => kx x (n8 k G v0 v2 v3 v4 v5 v6 h) (G x v2 h)) σ h)
noncomputable def c34 : Code := cL c6
@[simp] def n6 {R : Type} (k : Nat) (G : KT1 R) (v0 v2 v3 v4 v5 v6 v7 v8 v9 : GV) (h : Heap) : Option R := (kN NN fn.spec_DrawStream [v0] h).bind fun v47 => (kxt 0 v47).bind fun v48 => (kxt 1 v47).bind fun v49 => (kxt 2 v47).bind fun v50 => n7 k G v0 v2 v3 v4 v5 v6 v7 v8 v9 v48 v49 v50 h
theorem n6_eq0 {R : Type} (k : Nat) (G : KT1 R) (σ : GS) (h : Heap) : KC k 166 c34 σ h (fun x σ h => kx x (n7 k G (σ 0) (σ 2) (σ 3) (σ 4) (σ 5) (σ 6) (σ 7) (σ 8) (σ 9) (σ 10) (σ 11) (σ 12) h) (G x (σ 2) h)) = n6 k G (σ 0) (σ 2) (σ 3) (σ 4) (σ 5) (σ 6) (σ 7) (σ 8) (σ 9) h := by kernel_rfl
theorem n6_eq {R : Type} (k : Nat) (G : KT1 R) (σ : GS) (h : Heap) : KC k 166 c6 σ h (fun x σ h => G x (σ 2) h) = n6 k G (σ 0) (σ 2) (σ 3) (σ 4) (σ 5) (σ 6) (σ 7) (σ 8) (σ 9) h := (kseq (b := c7) rfl (fun σ h => n7_eq k G σ h)).trans (n6_eq0 k G σ h)
noncomputable def c35 : Code := cL c5
@[simp] def n5 {R : Type} (k : Nat) (G : KT1 R) (v0 v2 v3 v4 v5 v6 v7 : GV) (h : Heap) : Option R := (kN NN fn.spec_DrawMix [v0] h).bind fun v42 => (kxt 0 v42).bind fun v43 => (kxt 1 v42).bind fun v44 => n6 k G v0 v2 v3 v4 v5 v6 v7 v43 v44 h
theorem n5_eq0 {R : Type} (k : Nat) (G : KT1 R) (σ : GS) (h : Heap) : KC k 166 c35 σ h (fun x σ h => kx x (n6 k G (σ 0) (σ 2) (σ 3) (σ 4) (σ 5) (σ 6) (σ 7) (σ 8) (σ 9) h) (G x (σ 2) h)) = n5 k G (σ 0) (σ 2) (σ 3) (σ 4) (σ 5) (σ 6) (σ 7) h := by kernel_rfl
theorem n5_eq {R : Type} (k : Nat) (G : KT1 R) (σ : GS) (h : Heap) : KC k 166 c5 σ h (fun x σ h => G x (σ 2) h) = n5 k G (σ 0) (σ 2) (σ 3) (σ 4) (σ 5) (σ 6) (σ 7) h := (kseq (b := c6) rfl (fun σ h => n6_eq k G σ h)).trans (n5_eq0 k G σ h)
noncomputable def c36 : Code := cL c4
@[simp] def n4 {R : Type} (k : Nat) (G : KT1 R) (v0 v2 v3 v4 v5 v6 : GV) (h : Heap) : Option R := (kN NN fn.impl_Mark [v3, v4, v5] h).bind fun v39 => n5 k G v0 v2 v3 v4 v5 v6 v39 h
theorem n4_eq0 {R : Type} (k : Nat) (G : KT1 R) (σ : GS) (h : Heap) : KC k 166 c36 σ h (fun x σ h => kx x (n5 k G (σ 0) (σ 2) (σ 3) (σ 4) (σ 5) (σ 6) (σ 7) h) (G x (σ 2) h)) = n4 k G (σ 0) (σ 2) (σ 3) (σ 4) (σ 5) (σ 6) h := by kernel_rfl
theorem n4_eq {R : Type} (k : Nat) (G : KT1 R) (σ : GS) (h : Heap) : KC k 166 c4 σ h (fun x σ h => G x (σ 2) h) = n4 k G (σ 0) (σ 2) (σ 3) (σ 4) (σ 5) (σ 6) h := (kseq (b := c5) rfl (fun σ h => n5_eq k G σ h)).trans (n4_eq0 k G σ h)
noncomputable def c37 : Code := cL c3
@[simp] def n3 {R : Type} (k : Nat) (G : KT1 R) (v0 v2 v3 v4 v5 : GV) (h : Heap) : Option R := (kN NN fn.impl_Sealed [v3, v4, v5] h).bind fun v35 => n4 k G v0 v2 v3 v4 v5 v35 h
theorem n3_eq0 {R : Type} (k : Nat) (G : KT1 R) (σ : GS) (h : Heap) : KC k 166 c37 σ h (fun x σ h => kx x (n4 k G (σ 0) (σ 2) (σ 3) (σ 4) (σ 5) (σ 6) h) (G x (σ 2) h)) = n3 k G (σ 0) (σ 2) (σ 3) (σ 4) (σ 5) h := by kernel_rfl
theorem n3_eq {R : Type} (k : Nat) (G : KT1 R) (σ : GS) (h : Heap) : KC k 166 c3 σ h (fun x σ h => G x (σ 2) h) = n3 k G (σ 0) (σ 2) (σ 3) (σ 4) (σ 5) h := (kseq (b := c4) rfl (fun σ h => n4_eq k G σ h)).trans (n3_eq0 k G σ h)
noncomputable def c38 : Code := cL c2
@[simp] def n2 {R : Type} (k : Nat) (G : KT1 R) (v0 v2 : GV) (h : Heap) : Option R := (kN NN fn.spec_DrawSealed [v0] h).bind fun v28 => (kxt 0 v28).bind fun v29 => (kxt 1 v28).bind fun v30 => (kxt 2 v28).bind fun v31 => n3 k G v0 v2 v29 v30 v31 h
theorem n2_eq0 {R : Type} (k : Nat) (G : KT1 R) (σ : GS) (h : Heap) : KC k 166 c38 σ h (fun x σ h => kx x (n3 k G (σ 0) (σ 2) (σ 3) (σ 4) (σ 5) h) (G x (σ 2) h)) = n2 k G (σ 0) (σ 2) h := by kernel_rfl
theorem n2_eq {R : Type} (k : Nat) (G : KT1 R) (σ : GS) (h : Heap) : KC k 166 c2 σ h (fun x σ h => G x (σ 2) h) = n2 k G (σ 0) (σ 2) h := (kseq (b := c3) rfl (fun σ h => n3_eq k G σ h)).trans (n2_eq0 k G σ h)
noncomputable def c39 : Code := cL c1
@[simp] def n1 {R : Type} (k : Nat) (G : KT1 R) (v0 v2 : GV) (h : Heap) : Option R := (kN NN fn.laws_big [v0] h).bind fun v25 => kcond v25 (G .ret (.bool true) h) (n2 k G v0 v2 h)
theorem n1_eq0 {R : Type} (k : Nat) (G : KT1 R) (σ : GS) (h : Heap) : KC k 166 c39 σ h (fun x σ h => kx x (n2 k G (σ 0) (σ 2) h) (G x (σ 2) h)) = n1 k G (σ 0) (σ 2) h := by kernel_rfl
theorem n1_eq {R : Type} (k : Nat) (G : KT1 R) (σ : GS) (h : Heap) : KC k 166 c1 σ h (fun x σ h => G x (σ 2) h) = n1 k G (σ 0) (σ 2) h := (kseq (b := c2) rfl (fun σ h => n2_eq k G σ h)).trans (n1_eq0 k G σ h)
noncomputable def c40 : Code := cL c0
@[simp] def n0 {R : Type} (k : Nat) (G : KT1 R) (v0 : GV) (h : Heap) : Option R := n1 k G v0 (.bool false) h
theorem n0_eq0 {R : Type} (k : Nat) (G : KT1 R) (σ : GS) (h : Heap) : KC k 166 c40 σ h (fun x σ h => kx x (n1 k G (σ 0) (σ 2) h) (G x (σ 2) h)) = n0 k G (σ 0) h := by kernel_rfl
theorem n0_eq {R : Type} (k : Nat) (G : KT1 R) (σ : GS) (h : Heap) : KC k 166 c0 σ h (fun x σ h => G x (σ 2) h) = n0 k G (σ 0) h := (kseq (b := c1) rfl (fun σ h => n1_eq k G σ h)).trans (n0_eq0 k G σ h)
def run {R : Type} (k : Nat) (a0 : GV) (h : Heap) (fin : GV → Heap → Option R) : Option R := n0 k (fun x v2 h => kend x (fin v2 h)) a0 h
theorem run_eq {R : Type} (k : Nat) (a0 : GV) (h : Heap) (fin : GV → Heap → Option R) : kfun PP cfg NN HH k fn.laws_FnSealed [a0] h fin = run k a0 h fin := (kfun_eq (nt := 166) (c := c0) (show PP.funcs[fn.laws_FnSealed]? = some Tryd.f9 by kernel_rfl) (by kernel_rfl) (by kernel_rfl) (fun x σ h => by cases x <;> kernel_rfl)).trans (n0_eq k (fun x v2 h => kend x (fin v2 h)) _ h)
theorem gives {k : Nat} {a0 : GV} {v : GV} (e : run k a0 [] finN = some v) : NN fn.laws_FnSealed [a0] = some v := nω_of (by kernel_rfl) ((run_eq k a0 [] finN).trans e)
end S.laws_FnSealed
/-! spec_DrawSealed -/
namespace S.spec_DrawSealed
noncomputable def c0 : Code := bodyOf Tryd.f33
@[simp] def n0 {R : Type} (k : Nat) (G : KT3 R) (v0 : GV) (h : Heap) : Option R := (kN NN fn.spec_DrawMark [v0] h).bind fun v6 => (kxt 0 v6).bind fun v7 => (kxt 1 v6).bind fun v8 => (kxt 2 v6).bind fun v9 => G .ret v7 v8 v9 h
theorem n0_eq {R : Type} (k : Nat) (G : KT3 R) (σ : GS) (h : Heap) : KC k 10 c0 σ h (fun x σ h => G x (σ 2) (σ 3) (σ 4) h) = n0 k G (σ 0) h := by kernel_rfl
def run {R : Type} (k : Nat) (a0 : GV) (h : Heap) (fin : GV → Heap → Option R) : Option R := n0 k (fun x v2 v3 v4 h => kend x (fin (.tup [v2, v3, v4]) h)) a0 h
theorem run_eq {R : Type} (k : Nat) (a0 : GV) (h : Heap) (fin : GV → Heap → Option R) : kfun PP cfg NN HH k fn.spec_DrawSealed [a0] h fin = run k a0 h fin := (kfun_eq (nt := 10) (c := c0) (show PP.funcs[fn.spec_DrawSealed]? = some Tryd.f33 by kernel_rfl) (by kernel_rfl) (by kernel_rfl) (fun x σ h => by cases x <;> kernel_rfl)).trans (n0_eq k (fun x v2 v3 v4 h => kend x (fin (.tup [v2, v3, v4]) h)) _ h)
theorem gives {k : Nat} {a0 : GV} {v : GV} (e : run k a0 [] finN = some v) : NN fn.spec_DrawSealed [a0] = some v := nω_of (by kernel_rfl) ((run_eq k a0 [] finN).trans e)
end S.spec_DrawSealed
/-! spec_DrawMix -/
namespace S.spec_DrawMix
noncomputable def c0 : Code := bodyOf Tryd.f35
@[simp] def n0 {R : Type} (k : Nat) (G : KT2 R) (v0 : GV) (h : Heap) : Option R := (HH fn.spec_l1New [v0] h).bind fun r => kr r fun v6 h => (HH fn.spec_l14DrawCount [v6] h).bind fun r => kr r fun v8 h => (kbin .mul v8 (.int .i64 7919)).bind fun v9 => (kbin .rem v9 (.int .i64 5000000)).bind fun v10 => (HH fn.spec_l14DrawCount [v6] h).bind fun r => kr r fun v12 h => G .ret v10 v12 h
theorem n0_eq {R : Type} (k : Nat) (G : KT2 R) (σ : GS) (h : Heap) : KC k 13 c0 σ h (fun x σ h => G x (σ 2) (σ 3) h) = n0 k G (σ 0) h := by kernel_rfl
def run {R : Type} (k : Nat) (a0 : GV) (h : Heap) (fin : GV → Heap → Option R) : Option R := n0 k (fun x v2 v3 h => kend x (fin (.tup [v2, v3]) h)) a0 h
theorem run_eq {R : Type} (k : Nat) (a0 : GV) (h : Heap) (fin : GV → Heap → Option R) : kfun PP cfg NN HH k fn.spec_DrawMix [a0] h fin = run k a0 h fin := (kfun_eq (nt := 13) (c := c0) (show PP.funcs[fn.spec_DrawMix]? = some Tryd.f35 by kernel_rfl) (by kernel_rfl) (by kernel_rfl) (fun x σ h => by cases x <;> kernel_rfl)).trans (n0_eq k (fun x v2 v3 h => kend x (fin (.tup [v2, v3]) h)) _ h)
theorem gives {k : Nat} {a0 : GV} {v : GV} (e : run k a0 [] finN = some v) : NN fn.spec_DrawMix [a0] = some v := nω_of (by kernel_rfl) ((run_eq k a0 [] finN).trans e)
end S.spec_DrawMix
/-! spec_DrawStream -/
namespace S.spec_DrawStream
noncomputable def c0 : Code := bodyOf Tryd.f36
noncomputable def c1 : Code := cR c0
noncomputable def c2 : Code := cR c1
noncomputable def c3 : Code := cR c2
noncomputable def c4 : Code := cR c3
noncomputable def c5 : Code := cR c4
@[simp] def n5 {R : Type} (k : Nat) (G : KT3 R) (v2 v3 v4 : GV) (h : Heap) : Option R := G .ret v2 v3 v4 h
theorem n5_eq {R : Type} (k : Nat) (G : KT3 R) (σ : GS) (h : Heap) : KC k 21 c5 σ h (fun x σ h => G x (σ 2) (σ 3) (σ 4) h) = n5 k G (σ 2) (σ 3) (σ 4) h := by kernel_rfl
noncomputable def c6 : Code := cL c4
noncomputable def o6 : Array Oper := cO c6
@[simp] def g6_0 {R : Type} (k : Nat) (G : KT3 R) (v5 v6 v7 : GV) (rs : List Rec) (h : Heap) : Option R := kold h fun h0 => (gfill (fun i => some (i * 1, 1)) (zeros [(.int .i64 0)] 7) [(0, (.int .i64 0)), (1, (.int .i64 1)), (2, (.int .i64 9)), (3, (.int .i64 4000)), (4, (.int .i64 4001)), (5, (.int .i64 (-1))), (6, (.int .i64 30))]).bind fun c => kbs 7 1 c h fun v16 h => krs (rs ++ [⟨2, h0.length, h.length, ⟨[], []⟩⟩]) fun rs => kold h fun h0 => kchk (kflat h0 [v5, (.int .i64 7)]) <| (HH fn.spec_l1Below [v5, (.int .i64 7)] h).bind fun r => kr r fun v18 h => krs (rs ++ [⟨4, h0.length, h.length, ⟨kreach h0 [v5, (.int .i64 7)], kreach h0 [v5, (.int .i64 7)]⟩⟩]) fun rs => (kia 1 v16 v18).bind fun v19 => (kload1 h v19).bind fun v20 => bif chk [(2, 4)] rs then G .nrm v6 v7 v20 h else none
theorem g6_0_eq {R : Type} (k : Nat) (G : KT3 R) (rs : List Rec) (σ : GS) (h : Heap) : kgroupsD PP cfg NN HH 21 o6 [(2, 4)] [(none, [0, 1, 2, 3, 4, 5, 6, 7, 8, 9])] rs σ h (fun rs σ h => bif chk [(2, 4)] rs then G .nrm (σ 2) (σ 3) (σ 4) h else none) = g6_0 k G (σ 5) (σ 6) (σ 7) rs h := by kernel_rfl
@[simp] def n6 {R : Type} (k : Nat) (G : KT3 R) (v5 v6 v7 : GV) (h : Heap) : Option R := g6_0 k G v5 v6 v7 [] h
theorem n6_eq {R : Type} (k : Nat) (G : KT3 R) (σ : GS) (h : Heap) : KC k 21 c6 σ h (fun x σ h => G x (σ 2) (σ 3) (σ 4) h) = n6 k G (σ 5) (σ 6) (σ 7) h := (kregionD_eq (id := 4) (draw := true) (ops := o6) (gs := [(none, [0, 1, 2, 3, 4, 5, 6, 7, 8, 9])]) (bad := [(2, 4)]) (by kernel_rfl) (by kernel_rfl) (by kernel_rfl) (by kernel_rfl) (by kernel_rfl)).trans (g6_0_eq k G [] σ h)
@[simp] def n4 {R : Type} (k : Nat) (G : KT3 R) (v5 v6 v7 : GV) (h : Heap) : Option R := n6 k (fun x v2 v3 v4 h => kx x (n5 k G v2 v3 v4 h) (G x v2 v3 v4 h)) v5 v6 v7 h
theorem n4_eq {R : Type} (k : Nat) (G : KT3 R) (σ : GS) (h : Heap) : KC k 21 c4 σ h (fun x σ h => G x (σ 2) (σ 3) (σ 4) h) = n4 k G (σ 5) (σ 6) (σ 7) h := (kseq (b := c5) rfl (fun σ h => n5_eq k G σ h)).trans (n6_eq k (fun x v2 v3 v4 h => kx x (n5 k G v2 v3 v4 h) (G x v2 v3 v4 h)) σ h)
noncomputable def c7 : Code := cL c3
@[simp] def n3 {R : Type} (k : Nat) (G : KT3 R) (v2 v3 v4 v5 v6 : GV) (h : Heap) : Option R := (HH fn.spec_l14DrawCount [v5] h).bind fun r => kr r fun v13 h => n4 k G v5 v6 v13 h
theorem n3_eq0 {R : Type} (k : Nat) (G : KT3 R) (σ : GS) (h : Heap) : KC k 21 c7 σ h (fun x σ h => kx x (n4 k G (σ 5) (σ 6) (σ 7) h) (G x (σ 2) (σ 3) (σ 4) h)) = n3 k G (σ 2) (σ 3) (σ 4) (σ 5) (σ 6) h := by kernel_rfl
theorem n3_eq {R : Type} (k : Nat) (G : KT3 R) (σ : GS) (h : Heap) : KC k 21 c3 σ h (fun x σ h => G x (σ 2) (σ 3) (σ 4) h) = n3 k G (σ 2) (σ 3) (σ 4) (σ 5) (σ 6) h := (kseq (b := c4) rfl (fun σ h => n4_eq k G σ h)).trans (n3_eq0 k G σ h)
noncomputable def c8 : Code := cL c2
@[simp] def n2 {R : Type} (k : Nat) (G : KT3 R) (v2 v3 v4 v5 : GV) (h : Heap) : Option R := (HH fn.spec_l14DrawKey [v5] h).bind fun r => kr r fun v11 h => n3 k G v2 v3 v4 v5 v11 h
theorem n2_eq0 {R : Type} (k : Nat) (G : KT3 R) (σ : GS) (h : Heap) : KC k 21 c8 σ h (fun x σ h => kx x (n3 k G (σ 2) (σ 3) (σ 4) (σ 5) (σ 6) h) (G x (σ 2) (σ 3) (σ 4) h)) = n2 k G (σ 2) (σ 3) (σ 4) (σ 5) h := by kernel_rfl
theorem n2_eq {R : Type} (k : Nat) (G : KT3 R) (σ : GS) (h : Heap) : KC k 21 c2 σ h (fun x σ h => G x (σ 2) (σ 3) (σ 4) h) = n2 k G (σ 2) (σ 3) (σ 4) (σ 5) h := (kseq (b := c3) rfl (fun σ h => n3_eq k G σ h)).trans (n2_eq0 k G σ h)
noncomputable def c9 : Code := cL c1
@[simp] def n1 {R : Type} (k : Nat) (G : KT3 R) (v0 v2 v3 v4 : GV) (h : Heap) : Option R := (HH fn.spec_l1New [v0] h).bind fun r => kr r fun v9 h => n2 k G v2 v3 v4 v9 h
theorem n1_eq0 {R : Type} (k : Nat) (G : KT3 R) (σ : GS) (h : Heap) : KC k 21 c9 σ h (fun x σ h => kx x (n2 k G (σ 2) (σ 3) (σ 4) (σ 5) h) (G x (σ 2) (σ 3) (σ 4) h)) = n1 k G (σ 0) (σ 2) (σ 3) (σ 4) h := by kernel_rfl
theorem n1_eq {R : Type} (k : Nat) (G : KT3 R) (σ : GS) (h : Heap) : KC k 21 c1 σ h (fun x σ h => G x (σ 2) (σ 3) (σ 4) h) = n1 k G (σ 0) (σ 2) (σ 3) (σ 4) h := (kseq (b := c2) rfl (fun σ h => n2_eq k G σ h)).trans (n1_eq0 k G σ h)
noncomputable def c10 : Code := cL c0
@[simp] def n0 {R : Type} (k : Nat) (G : KT3 R) (v0 : GV) (h : Heap) : Option R := n1 k G v0 (.str { data := #[] }) (.int .i64 0) (.int .i64 0) h
theorem n0_eq0 {R : Type} (k : Nat) (G : KT3 R) (σ : GS) (h : Heap) : KC k 21 c10 σ h (fun x σ h => kx x (n1 k G (σ 0) (σ 2) (σ 3) (σ 4) h) (G x (σ 2) (σ 3) (σ 4) h)) = n0 k G (σ 0) h := by kernel_rfl
theorem n0_eq {R : Type} (k : Nat) (G : KT3 R) (σ : GS) (h : Heap) : KC k 21 c0 σ h (fun x σ h => G x (σ 2) (σ 3) (σ 4) h) = n0 k G (σ 0) h := (kseq (b := c1) rfl (fun σ h => n1_eq k G σ h)).trans (n0_eq0 k G σ h)
def run {R : Type} (k : Nat) (a0 : GV) (h : Heap) (fin : GV → Heap → Option R) : Option R := n0 k (fun x v2 v3 v4 h => kend x (fin (.tup [v2, v3, v4]) h)) a0 h
theorem run_eq {R : Type} (k : Nat) (a0 : GV) (h : Heap) (fin : GV → Heap → Option R) : kfun PP cfg NN HH k fn.spec_DrawStream [a0] h fin = run k a0 h fin := (kfun_eq (nt := 21) (c := c0) (show PP.funcs[fn.spec_DrawStream]? = some Tryd.f36 by kernel_rfl) (by kernel_rfl) (by kernel_rfl) (fun x σ h => by cases x <;> kernel_rfl)).trans (n0_eq k (fun x v2 v3 v4 h => kend x (fin (.tup [v2, v3, v4]) h)) _ h)
theorem gives {k : Nat} {a0 : GV} {v : GV} (e : run k a0 [] finN = some v) : NN fn.spec_DrawStream [a0] = some v := nω_of (by kernel_rfl) ((run_eq k a0 [] finN).trans e)
end S.spec_DrawStream
/-! spec_DrawOpened -/
namespace S.spec_DrawOpened
noncomputable def c0 : Code := bodyOf Tryd.f42
noncomputable def c1 : Code := cR c0
noncomputable def c2 : Code := cR c1
noncomputable def c3 : Code := cR c2
noncomputable def c4 : Code := cR c3
noncomputable def c5 : Code := cR c4
noncomputable def c6 : Code := cR c5
@[simp] def n6 {R : Type} (k : Nat) (G : KT2 R) (v5 v8 : GV) (h : Heap) : Option R := G .ret v5 v8 h
theorem n6_eq {R : Type} (k : Nat) (G : KT2 R) (σ : GS) (h : Heap) : KC k 32 c6 σ h (fun x σ h => G x (σ 2) (σ 3) h) = n6 k G (σ 5) (σ 8) h := by kernel_rfl
noncomputable def c7 : Code := cL c5
@[simp] def n5 {R : Type} (k : Nat) (G : KT2 R) (v2 v3 v4 v5 v8 : GV) (h : Heap) : Option R := (HH fn.spec_l1Once [v4, (.int .i64 10)] h).bind fun r => kr r fun v27 h => kcond v27 ((HH fn.spec_l14DrawKey [v4] h).bind fun r => kr r fun v29 h => n6 k G v29 v8 h) (n6 k G v5 v8 h)
theorem n5_eq0 {R : Type} (k : Nat) (G : KT2 R) (σ : GS) (h : Heap) : KC k 32 c7 σ h (fun x σ h => kx x (n6 k G (σ 5) (σ 8) h) (G x (σ 2) (σ 3) h)) = n5 k G (σ 2) (σ 3) (σ 4) (σ 5) (σ 8) h := by kernel_rfl
theorem n5_eq {R : Type} (k : Nat) (G : KT2 R) (σ : GS) (h : Heap) : KC k 32 c5 σ h (fun x σ h => G x (σ 2) (σ 3) h) = n5 k G (σ 2) (σ 3) (σ 4) (σ 5) (σ 8) h := (kseq (b := c6) rfl (fun σ h => n6_eq k G σ h)).trans (n5_eq0 k G σ h)
noncomputable def c8 : Code := cL c4
@[simp] def n4 {R : Type} (k : Nat) (G : KT2 R) (v2 v3 v4 v5 v8 : GV) (h : Heap) : Option R := (HH fn.spec_l1Once [v4, (.int .i64 2)] h).bind fun r => kr r fun v22 h => kcond v22 ((HH fn.spec_l13Bend [v4, v8, (.str { data := #[48, 49, 57, 32, 97, 0] })] h).bind fun r => kr r fun v25 h => n5 k G v2 v3 v4 v5 v25 h) (n5 k G v2 v3 v4 v5 v8 h)
theorem n4_eq0 {R : Type} (k : Nat) (G : KT2 R) (σ : GS) (h : Heap) : KC k 32 c8 σ h (fun x σ h => kx x (n5 k G (σ 2) (σ 3) (σ 4) (σ 5) (σ 8) h) (G x (σ 2) (σ 3) h)) = n4 k G (σ 2) (σ 3) (σ 4) (σ 5) (σ 8) h := by kernel_rfl
theorem n4_eq {R : Type} (k : Nat) (G : KT2 R) (σ : GS) (h : Heap) : KC k 32 c4 σ h (fun x σ h => G x (σ 2) (σ 3) h) = n4 k G (σ 2) (σ 3) (σ 4) (σ 5) (σ 8) h := (kseq (b := c5) rfl (fun σ h => n5_eq k G σ h)).trans (n4_eq0 k G σ h)
noncomputable def c9 : Code := cL c3
@[simp] def n3 {R : Type} (k : Nat) (G : KT2 R) (v2 v3 v4 v5 v6 v7 : GV) (h : Heap) : Option R := (kN NN fn.spec_Sealed [v5, v6, v7] h).bind fun v20 => n4 k G v2 v3 v4 v5 v20 h
theorem n3_eq0 {R : Type} (k : Nat) (G : KT2 R) (σ : GS) (h : Heap) : KC k 32 c9 σ h (fun x σ h => kx x (n4 k G (σ 2) (σ 3) (σ 4) (σ 5) (σ 8) h) (G x (σ 2) (σ 3) h)) = n3 k G (σ 2) (σ 3) (σ 4) (σ 5) (σ 6) (σ 7) h := by kernel_rfl
theorem n3_eq {R : Type} (k : Nat) (G : KT2 R) (σ : GS) (h : Heap) : KC k 32 c3 σ h (fun x σ h => G x (σ 2) (σ 3) h) = n3 k G (σ 2) (σ 3) (σ 4) (σ 5) (σ 6) (σ 7) h := (kseq (b := c4) rfl (fun σ h => n4_eq k G σ h)).trans (n3_eq0 k G σ h)
noncomputable def c10 : Code := cL c2
@[simp] def n2 {R : Type} (k : Nat) (G : KT2 R) (v0 v2 v3 v4 : GV) (h : Heap) : Option R := (kN NN fn.spec_DrawMark [v0] h).bind fun v13 => (kxt 0 v13).bind fun v14 => (kxt 1 v13).bind fun v15 => (kxt 2 v13).bind fun v16 => n3 k G v2 v3 v4 v14 v15 v16 h
theorem n2_eq0 {R : Type} (k : Nat) (G : KT2 R) (σ : GS) (h : Heap) : KC k 32 c10 σ h (fun x σ h => kx x (n3 k G (σ 2) (σ 3) (σ 4) (σ 5) (σ 6) (σ 7) h) (G x (σ 2) (σ 3) h)) = n2 k G (σ 0) (σ 2) (σ 3) (σ 4) h := by kernel_rfl
theorem n2_eq {R : Type} (k : Nat) (G : KT2 R) (σ : GS) (h : Heap) : KC k 32 c2 σ h (fun x σ h => G x (σ 2) (σ 3) h) = n2 k G (σ 0) (σ 2) (σ 3) (σ 4) h := (kseq (b := c3) rfl (fun σ h => n3_eq k G σ h)).trans (n2_eq0 k G σ h)
noncomputable def c11 : Code := cL c1
@[simp] def n1 {R : Type} (k : Nat) (G : KT2 R) (v0 v2 v3 : GV) (h : Heap) : Option R := (HH fn.spec_l1New [v0] h).bind fun r => kr r fun v10 h => n2 k G v0 v2 v3 v10 h
theorem n1_eq0 {R : Type} (k : Nat) (G : KT2 R) (σ : GS) (h : Heap) : KC k 32 c11 σ h (fun x σ h => kx x (n2 k G (σ 0) (σ 2) (σ 3) (σ 4) h) (G x (σ 2) (σ 3) h)) = n1 k G (σ 0) (σ 2) (σ 3) h := by kernel_rfl
theorem n1_eq {R : Type} (k : Nat) (G : KT2 R) (σ : GS) (h : Heap) : KC k 32 c1 σ h (fun x σ h => G x (σ 2) (σ 3) h) = n1 k G (σ 0) (σ 2) (σ 3) h := (kseq (b := c2) rfl (fun σ h => n2_eq k G σ h)).trans (n1_eq0 k G σ h)
noncomputable def c12 : Code := cL c0
@[simp] def n0 {R : Type} (k : Nat) (G : KT2 R) (v0 : GV) (h : Heap) : Option R := n1 k G v0 (.str { data := #[] }) (.str { data := #[] }) h
theorem n0_eq0 {R : Type} (k : Nat) (G : KT2 R) (σ : GS) (h : Heap) : KC k 32 c12 σ h (fun x σ h => kx x (n1 k G (σ 0) (σ 2) (σ 3) h) (G x (σ 2) (σ 3) h)) = n0 k G (σ 0) h := by kernel_rfl
theorem n0_eq {R : Type} (k : Nat) (G : KT2 R) (σ : GS) (h : Heap) : KC k 32 c0 σ h (fun x σ h => G x (σ 2) (σ 3) h) = n0 k G (σ 0) h := (kseq (b := c1) rfl (fun σ h => n1_eq k G σ h)).trans (n0_eq0 k G σ h)
def run {R : Type} (k : Nat) (a0 : GV) (h : Heap) (fin : GV → Heap → Option R) : Option R := n0 k (fun x v2 v3 h => kend x (fin (.tup [v2, v3]) h)) a0 h
theorem run_eq {R : Type} (k : Nat) (a0 : GV) (h : Heap) (fin : GV → Heap → Option R) : kfun PP cfg NN HH k fn.spec_DrawOpened [a0] h fin = run k a0 h fin := (kfun_eq (nt := 32) (c := c0) (show PP.funcs[fn.spec_DrawOpened]? = some Tryd.f42 by kernel_rfl) (by kernel_rfl) (by kernel_rfl) (fun x σ h => by cases x <;> kernel_rfl)).trans (n0_eq k (fun x v2 v3 h => kend x (fin (.tup [v2, v3]) h)) _ h)
theorem gives {k : Nat} {a0 : GV} {v : GV} (e : run k a0 [] finN = some v) : NN fn.spec_DrawOpened [a0] = some v := nω_of (by kernel_rfl) ((run_eq k a0 [] finN).trans e)
end S.spec_DrawOpened
/-! spec_DrawMark -/
namespace S.spec_DrawMark
noncomputable def c0 : Code := bodyOf Tryd.f88
noncomputable def c1 : Code := cR c0
noncomputable def c2 : Code := cR c1
noncomputable def c3 : Code := cR c2
noncomputable def c4 : Code := cR c3
noncomputable def c5 : Code := cR c4
noncomputable def c6 : Code := cR c5
@[simp] def n6 {R : Type} (k : Nat) (G : KT3 R) (v6 v7 v8 : GV) (h : Heap) : Option R := G .ret v6 v7 v8 h
theorem n6_eq {R : Type} (k : Nat) (G : KT3 R) (σ : GS) (h : Heap) : KC k 27 c6 σ h (fun x σ h => G x (σ 2) (σ 3) (σ 4) h) = n6 k G (σ 6) (σ 7) (σ 8) h := by kernel_rfl
noncomputable def c7 : Code := cL c5
@[simp] def n5 {R : Type} (k : Nat) (G : KT3 R) (v2 v3 v4 v5 v6 v7 v8 : GV) (h : Heap) : Option R := (HH fn.spec_l1Once [v5, (.int .i64 30)] h).bind fun r => kr r fun v18 h => kcond v18 ((HH fn.spec_l1Below [v5, (.int .i64 2)] h).bind fun r => kr r fun v20 h => (kbin .add (.int .i64 4000) v20).bind fun v21 => (kmake [(.int .u8 0)] 1 1 v21 v21 h).bind fun r => kr r fun v22 h => (kbstr h v22).bind fun v23 => n6 k G v6 v7 v23 h) (n6 k G v6 v7 v8 h)
theorem n5_eq0 {R : Type} (k : Nat) (G : KT3 R) (σ : GS) (h : Heap) : KC k 27 c7 σ h (fun x σ h => kx x (n6 k G (σ 6) (σ 7) (σ 8) h) (G x (σ 2) (σ 3) (σ 4) h)) = n5 k G (σ 2) (σ 3) (σ 4) (σ 5) (σ 6) (σ 7) (σ 8) h := by kernel_rfl
theorem n5_eq {R : Type} (k : Nat) (G : KT3 R) (σ : GS) (h : Heap) : KC k 27 c5 σ h (fun x σ h => G x (σ 2) (σ 3) (σ 4) h) = n5 k G (σ 2) (σ 3) (σ 4) (σ 5) (σ 6) (σ 7) (σ 8) h := (kseq (b := c6) rfl (fun σ h => n6_eq k G σ h)).trans (n5_eq0 k G σ h)
noncomputable def c8 : Code := cL c4
@[simp] def n4 {R : Type} (k : Nat) (G : KT3 R) (v2 v3 v4 v5 v6 v7 : GV) (h : Heap) : Option R := (HH fn.spec_l1DrawBytes [v5] h).bind fun r => kr r fun v16 h => n5 k G v2 v3 v4 v5 v6 v7 v16 h
theorem n4_eq0 {R : Type} (k : Nat) (G : KT3 R) (σ : GS) (h : Heap) : KC k 27 c8 σ h (fun x σ h => kx x (n5 k G (σ 2) (σ 3) (σ 4) (σ 5) (σ 6) (σ 7) (σ 8) h) (G x (σ 2) (σ 3) (σ 4) h)) = n4 k G (σ 2) (σ 3) (σ 4) (σ 5) (σ 6) (σ 7) h := by kernel_rfl
theorem n4_eq {R : Type} (k : Nat) (G : KT3 R) (σ : GS) (h : Heap) : KC k 27 c4 σ h (fun x σ h => G x (σ 2) (σ 3) (σ 4) h) = n4 k G (σ 2) (σ 3) (σ 4) (σ 5) (σ 6) (σ 7) h := (kseq (b := c5) rfl (fun σ h => n5_eq k G σ h)).trans (n4_eq0 k G σ h)
noncomputable def c9 : Code := cL c3
@[simp] def n3 {R : Type} (k : Nat) (G : KT3 R) (v2 v3 v4 v5 v6 : GV) (h : Heap) : Option R := (HH fn.spec_l14DrawCount [v5] h).bind fun r => kr r fun v14 h => n4 k G v2 v3 v4 v5 v6 v14 h
theorem n3_eq0 {R : Type} (k : Nat) (G : KT3 R) (σ : GS) (h : Heap) : KC k 27 c9 σ h (fun x σ h => kx x (n4 k G (σ 2) (σ 3) (σ 4) (σ 5) (σ 6) (σ 7) h) (G x (σ 2) (σ 3) (σ 4) h)) = n3 k G (σ 2) (σ 3) (σ 4) (σ 5) (σ 6) h := by kernel_rfl
theorem n3_eq {R : Type} (k : Nat) (G : KT3 R) (σ : GS) (h : Heap) : KC k 27 c3 σ h (fun x σ h => G x (σ 2) (σ 3) (σ 4) h) = n3 k G (σ 2) (σ 3) (σ 4) (σ 5) (σ 6) h := (kseq (b := c4) rfl (fun σ h => n4_eq k G σ h)).trans (n3_eq0 k G σ h)
noncomputable def c10 : Code := cL c2
@[simp] def n2 {R : Type} (k : Nat) (G : KT3 R) (v2 v3 v4 v5 : GV) (h : Heap) : Option R := (HH fn.spec_l14DrawKey [v5] h).bind fun r => kr r fun v12 h => n3 k G v2 v3 v4 v5 v12 h
theorem n2_eq0 {R : Type} (k : Nat) (G : KT3 R) (σ : GS) (h : Heap) : KC k 27 c10 σ h (fun x σ h => kx x (n3 k G (σ 2) (σ 3) (σ 4) (σ 5) (σ 6) h) (G x (σ 2) (σ 3) (σ 4) h)) = n2 k G (σ 2) (σ 3) (σ 4) (σ 5) h := by kernel_rfl
theorem n2_eq {R : Type} (k : Nat) (G : KT3 R) (σ : GS) (h : Heap) : KC k 27 c2 σ h (fun x σ h => G x (σ 2) (σ 3) (σ 4) h) = n2 k G (σ 2) (σ 3) (σ 4) (σ 5) h := (kseq (b := c3) rfl (fun σ h => n3_eq k G σ h)).trans (n2_eq0 k G σ h)
noncomputable def c11 : Code := cL c1
@[simp] def n1 {R : Type} (k : Nat) (G : KT3 R) (v0 v2 v3 v4 : GV) (h : Heap) : Option R := (HH fn.spec_l1New [v0] h).bind fun r => kr r fun v10 h => n2 k G v2 v3 v4 v10 h
theorem n1_eq0 {R : Type} (k : Nat) (G : KT3 R) (σ : GS) (h : Heap) : KC k 27 c11 σ h (fun x σ h => kx x (n2 k G (σ 2) (σ 3) (σ 4) (σ 5) h) (G x (σ 2) (σ 3) (σ 4) h)) = n1 k G (σ 0) (σ 2) (σ 3) (σ 4) h := by kernel_rfl
theorem n1_eq {R : Type} (k : Nat) (G : KT3 R) (σ : GS) (h : Heap) : KC k 27 c1 σ h (fun x σ h => G x (σ 2) (σ 3) (σ 4) h) = n1 k G (σ 0) (σ 2) (σ 3) (σ 4) h := (kseq (b := c2) rfl (fun σ h => n2_eq k G σ h)).trans (n1_eq0 k G σ h)
noncomputable def c12 : Code := cL c0
@[simp] def n0 {R : Type} (k : Nat) (G : KT3 R) (v0 : GV) (h : Heap) : Option R := n1 k G v0 (.str { data := #[] }) (.int .i64 0) (.str { data := #[] }) h
theorem n0_eq0 {R : Type} (k : Nat) (G : KT3 R) (σ : GS) (h : Heap) : KC k 27 c12 σ h (fun x σ h => kx x (n1 k G (σ 0) (σ 2) (σ 3) (σ 4) h) (G x (σ 2) (σ 3) (σ 4) h)) = n0 k G (σ 0) h := by kernel_rfl
theorem n0_eq {R : Type} (k : Nat) (G : KT3 R) (σ : GS) (h : Heap) : KC k 27 c0 σ h (fun x σ h => G x (σ 2) (σ 3) (σ 4) h) = n0 k G (σ 0) h := (kseq (b := c1) rfl (fun σ h => n1_eq k G σ h)).trans (n0_eq0 k G σ h)
def run {R : Type} (k : Nat) (a0 : GV) (h : Heap) (fin : GV → Heap → Option R) : Option R := n0 k (fun x v2 v3 v4 h => kend x (fin (.tup [v2, v3, v4]) h)) a0 h
theorem run_eq {R : Type} (k : Nat) (a0 : GV) (h : Heap) (fin : GV → Heap → Option R) : kfun PP cfg NN HH k fn.spec_DrawMark [a0] h fin = run k a0 h fin := (kfun_eq (nt := 27) (c := c0) (show PP.funcs[fn.spec_DrawMark]? = some Tryd.f88 by kernel_rfl) (by kernel_rfl) (by kernel_rfl) (fun x σ h => by cases x <;> kernel_rfl)).trans (n0_eq k (fun x v2 v3 v4 h => kend x (fin (.tup [v2, v3, v4]) h)) _ h)
theorem gives {k : Nat} {a0 : GV} {v : GV} (e : run k a0 [] finN = some v) : NN fn.spec_DrawMark [a0] = some v := nω_of (by kernel_rfl) ((run_eq k a0 [] finN).trans e)
end S.spec_DrawMark
end
end Go.Proofs.YtklhdbkaejbajaaDoor.G
