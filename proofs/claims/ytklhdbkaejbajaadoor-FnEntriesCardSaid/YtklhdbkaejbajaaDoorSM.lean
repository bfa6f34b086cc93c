/- What these functions do, told for open values, out of the machine with continuations. Printed by a program of this session. -/
import Derived.Test.YtklhdbkaejbajaaDoorSD
import Derived.KernelRfl
namespace Go.Proofs.YtklhdbkaejbajaaDoor.G
open Go.RowKit
set_option linter.unusedVariables false
set_option maxRecDepth 100000
noncomputable section
variable {R : Type} (k : Nat)
/-! laws_FnEntries -/
namespace S.laws_FnEntries
noncomputable def c0 : Code := bodyOf Tryd.f11
noncomputable def c1 : Code := cR c0
noncomputable def c2 : Code := cR c1
noncomputable def c3 : Code := cR c2
noncomputable def c4 : Code := cR c3
noncomputable def c5 : Code := cR c4
noncomputable def c6 : Code := cR c5
noncomputable def c7 : Code := cR c6
noncomputable def c8 : Code := cR c7
noncomputable def c9 : Code := cR c8
noncomputable def c10 : Code := cR c9
@[simp] def n10 {R : Type} (k : Nat) (G : KT1 R) (v2 : GV) (h : Heap) : Option R := G .ret v2 h
theorem n10_eq (G : KT1 R) (σ : GS) (h : Heap) : KC k 79 c10 σ h (fun x σ h => G x (σ 2) h) = n10 k G (σ 2) h := by kernel_rfl
noncomputable def c11 : Code := cL c9
noncomputable def o11 : Array Oper := cO c11
@[simp] def g11_6 {R : Type} (k : Nat) (G : KT1 R) (v70 v77 : GV) (h : Heap) : Option R := (kpick v70 (.bool true) v77).bind fun v78 => G .nrm v78 h
theorem g11_6_eq (G : KT1 R) (σ : GS) (h : Heap) : kgroups PP cfg NN HH 79 o11 [(none, [15, 16])] σ h (fun σ h => G .nrm (σ 2) h) = g11_6 k G (σ 70) (σ 77) h := by kernel_rfl
@[simp] def g11_5 (G : KT1 R) (v70 v72 v76 : GV) (h : Heap) : Option R := bif tr false v70 then (kpick v72 v76 (.bool false)).bind fun v77 => g11_6 k G v70 v77 h else g11_6 k G v70 .un h
theorem g11_5_eq (G : KT1 R) (σ : GS) (h : Heap) : kgroups PP cfg NN HH 79 o11 [(some (7, false), [14]), (none, [15, 16])] σ h (fun σ h => G .nrm (σ 2) h) = g11_5 k G (σ 70) (σ 72) (σ 76) h := (kgroups_cons (fun σ h => g11_6_eq k G σ h)).trans (by kernel_rfl)
@[simp] def g11_4 (G : KT1 R) (v7 v8 v70 v72 : GV) (h : Heap) : Option R := bif tr true v72 then (kloadA 4 h v8).bind fun v73 => (kN NN fn.impl_ShowEntry [v73] h).bind fun v74 => (kbin .eql v74 v7).bind fun v76 => g11_5 k G v70 v72 v76 h else g11_5 k G v70 v72 .un h
theorem g11_4_eq (G : KT1 R) (σ : GS) (h : Heap) : kgroups PP cfg NN HH 79 o11 [(some (9, true), [10, 11, 12, 13]), (some (7, false), [14]), (none, [15, 16])] σ h (fun σ h => G .nrm (σ 2) h) = g11_4 k G (σ 7) (σ 8) (σ 70) (σ 72) h := (kgroups_cons (fun σ h => g11_5_eq k G σ h)).trans (by kernel_rfl)
@[simp] def g11_3 (G : KT1 R) (v7 v8 v9 v70 : GV) (h : Heap) : Option R := bif tr false v70 then g11_4 k G v7 v8 v70 v9 h else g11_4 k G v7 v8 v70 .un h
theorem g11_3_eq (G : KT1 R) (σ : GS) (h : Heap) : kgroups PP cfg NN HH 79 o11 [(some (7, false), [8, 9]), (some (9, true), [10, 11, 12, 13]), (some (7, false), [14]), (none, [15, 16])] σ h (fun σ h => G .nrm (σ 2) h) = g11_3 k G (σ 7) (σ 8) (σ 9) (σ 70) h := (kgroups_cons (fun σ h => g11_4_eq k G σ h)).trans (by kernel_rfl)
@[simp] def g11_2 (G : KT1 R) (v7 v8 v9 v65 v68 : GV) (h : Heap) : Option R := (kpick v65 v68 (.bool false)).bind fun v69 => g11_3 k G v7 v8 v9 v69 h
theorem g11_2_eq (G : KT1 R) (σ : GS) (h : Heap) : kgroups PP cfg NN HH 79 o11 [(none, [6, 7]), (some (7, false), [8, 9]), (some (9, true), [10, 11, 12, 13]), (some (7, false), [14]), (none, [15, 16])] σ h (fun σ h => G .nrm (σ 2) h) = g11_2 k G (σ 7) (σ 8) (σ 9) (σ 65) (σ 68) h := (kgroups_cons (fun σ h => g11_3_eq k G σ h)).trans (by kernel_rfl)
@[simp] def g11_1 (G : KT1 R) (v7 v8 v9 v65 : GV) (h : Heap) : Option R := bif tr true v65 then (kloadA 4 h v8).bind fun v66 => (gfill (fun i => [(0, 1), (1, 1), (2, 1), (3, 1)][i]?) [(.int .i64 0), (.int .i64 0), (.int .i64 0), (.str { data := #[] })] []).bind fun c => kagg c h fun v67 h => (keqS PP .eql ty.impl_Entry v66 v67).bind fun v68 => g11_2 k G v7 v8 v9 v65 v68 h else g11_2 k G v7 v8 v9 v65 .un h
theorem g11_1_eq (G : KT1 R) (σ : GS) (h : Heap) : kgroups PP cfg NN HH 79 o11 [(some (2, true), [3, 4, 5]), (none, [6, 7]), (some (7, false), [8, 9]), (some (9, true), [10, 11, 12, 13]), (some (7, false), [14]), (none, [15, 16])] σ h (fun σ h => G .nrm (σ 2) h) = g11_1 k G (σ 7) (σ 8) (σ 9) (σ 65) h := (kgroups_cons (fun σ h => g11_2_eq k G σ h)).trans (by kernel_rfl)
@[simp] def g11_0 (G : KT1 R) (v7 v8 v9 : GV) (h : Heap) : Option R := (kun .not v9).bind fun v64 => g11_1 k G v7 v8 v9 v64 h
theorem g11_0_eq (G : KT1 R) (σ : GS) (h : Heap) : kgroups PP cfg NN HH 79 o11 [(none, [0, 1, 2]), (some (2, true), [3, 4, 5]), (none, [6, 7]), (some (7, false), [8, 9]), (some (9, true), [10, 11, 12, 13]), (some (7, false), [14]), (none, [15, 16])] σ h (fun σ h => G .nrm (σ 2) h) = g11_0 k G (σ 7) (σ 8) (σ 9) h := (kgroups_cons (fun σ h => g11_1_eq k G σ h)).trans (by kernel_rfl)
@[simp] def n11 (G : KT1 R) (v7 v8 v9 : GV) (h : Heap) : Option R := g11_0 k G v7 v8 v9 h
theorem n11_eq (G : KT1 R) (σ : GS) (h : Heap) : KC k 79 c11 σ h (fun x σ h => G x (σ 2) h) = n11 k G (σ 7) (σ 8) (σ 9) h := (kregion_eq (id := 16) (draw := false) (ops := o11) (gs := [(none, [0, 1, 2]), (some (2, true), [3, 4, 5]), (none, [6, 7]), (some (7, false), [8, 9]), (some (9, true), [10, 11, 12, 13]), (some (7, false), [14]), (none, [15, 16])]) (by kernel_rfl) (by kernel_rfl) (by kernel_rfl)).trans (g11_0_eq k G σ h)
@[simp] def n9 (G : KT1 R) (v7 v8 v9 : GV) (h : Heap) : Option R := n11 k (fun x v2 h => kx x (n10 k G v2 h) (G x v2 h)) v7 v8 v9 h
theorem n9_eq (G : KT1 R) (σ : GS) (h : Heap) : KC k 79 c9 σ h (fun x σ h => G x (σ 2) h) = n9 k G (σ 7) (σ 8) (σ 9) h := (kseq (b := c10) rfl (fun σ h => n10_eq k G σ h)).trans (n11_eq k (fun x v2 h => kx x (n10 k G v2 h) (G x v2 h)) σ h)
noncomputable def c12 : Code := cL c8
noncomputable def c13 : Code := cR c12
noncomputable def c14 : Code := cR c13
@[simp] def n14 {R : Type} (k : Nat) (G : KT4 R) (v2 v7 v8 v9 v62 : GV) (h : Heap) : Option R := kcond v62 (G .ret (.bool false) v7 v8 v9 h) (G .nrm v2 v7 v8 v9 h)
theorem n14_eq (G : KT4 R) (σ : GS) (h : Heap) : KC k 79 c14 σ h (fun x σ h => G x (σ 2) (σ 7) (σ 8) (σ 9) h) = n14 k G (σ 2) (σ 7) (σ 8) (σ 9) (σ 62) h := by kernel_rfl
noncomputable def c15 : Code := cL c13
noncomputable def o15 : Array Oper := cO c15
@[simp] def g15_2 {R : Type} (k : Nat) (G : KT5 R) (v2 v7 v8 v9 v58 v61 : GV) (h : Heap) : Option R := (kpick v58 (.bool true) v61).bind fun v62 => G .nrm v2 v7 v8 v9 v62 h
theorem g15_2_eq (G : KT5 R) (σ : GS) (h : Heap) : kgroups PP cfg NN HH 79 o15 [(none, [7])] σ h (fun σ h => G .nrm (σ 2) (σ 7) (σ 8) (σ 9) (σ 62) h) = g15_2 k G (σ 2) (σ 7) (σ 8) (σ 9) (σ 58) (σ 61) h := by kernel_rfl
@[simp] def g15_1 (G : KT5 R) (v2 v7 v8 v9 v10 v58 : GV) (h : Heap) : Option R := bif tr false v58 then (kloadA 4 h v8).bind fun v59 => (kloadA 4 h v10).bind fun v60 => (keqS PP .neq ty.impl_Entry v59 v60).bind fun v61 => g15_2 k G v2 v7 v8 v9 v58 v61 h else g15_2 k G v2 v7 v8 v9 v58 .un h
theorem g15_1_eq (G : KT5 R) (σ : GS) (h : Heap) : kgroups PP cfg NN HH 79 o15 [(some (3, false), [4, 5, 6]), (none, [7])] σ h (fun σ h => G .nrm (σ 2) (σ 7) (σ 8) (σ 9) (σ 62) h) = g15_1 k G (σ 2) (σ 7) (σ 8) (σ 9) (σ 10) (σ 58) h := (kgroups_cons (fun σ h => g15_2_eq k G σ h)).trans (by kernel_rfl)
@[simp] def g15_0 (G : KT5 R) (v2 v7 v8 v9 v10 v11 : GV) (h : Heap) : Option R := (keqB .neq v9 v11).bind fun v57 => g15_1 k G v2 v7 v8 v9 v10 v57 h
theorem g15_0_eq (G : KT5 R) (σ : GS) (h : Heap) : kgroups PP cfg NN HH 79 o15 [(none, [0, 1, 2, 3]), (some (3, false), [4, 5, 6]), (none, [7])] σ h (fun σ h => G .nrm (σ 2) (σ 7) (σ 8) (σ 9) (σ 62) h) = g15_0 k G (σ 2) (σ 7) (σ 8) (σ 9) (σ 10) (σ 11) h := (kgroups_cons (fun σ h => g15_1_eq k G σ h)).trans (by kernel_rfl)
@[simp] def n15 (G : KT5 R) (v2 v7 v8 v9 v10 v11 : GV) (h : Heap) : Option R := g15_0 k G v2 v7 v8 v9 v10 v11 h
theorem n15_eq (G : KT5 R) (σ : GS) (h : Heap) : KC k 79 c15 σ h (fun x σ h => G x (σ 2) (σ 7) (σ 8) (σ 9) (σ 62) h) = n15 k G (σ 2) (σ 7) (σ 8) (σ 9) (σ 10) (σ 11) h := (kregion_eq (id := 14) (draw := false) (ops := o15) (gs := [(none, [0, 1, 2, 3]), (some (3, false), [4, 5, 6]), (none, [7])]) (by kernel_rfl) (by kernel_rfl) (by kernel_rfl)).trans (g15_0_eq k G σ h)
@[simp] def n13 (G : KT4 R) (v2 v7 v8 v9 v10 v11 : GV) (h : Heap) : Option R := n15 k (fun x v2 v7 v8 v9 v62 h => kx x (n14 k G v2 v7 v8 v9 v62 h) (G x v2 v7 v8 v9 h)) v2 v7 v8 v9 v10 v11 h
theorem n13_eq (G : KT4 R) (σ : GS) (h : Heap) : KC k 79 c13 σ h (fun x σ h => G x (σ 2) (σ 7) (σ 8) (σ 9) h) = n13 k G (σ 2) (σ 7) (σ 8) (σ 9) (σ 10) (σ 11) h := (kseq (b := c14) rfl (fun σ h => n14_eq k G σ h)).trans (n15_eq k (fun x v2 v7 v8 v9 v62 h => kx x (n14 k G v2 v7 v8 v9 v62 h) (G x v2 v7 v8 v9 h)) σ h)
noncomputable def c16 : Code := cL c12
@[simp] def n12 (G : KT4 R) (v2 v7 v8 v9 : GV) (h : Heap) : Option R := (kN NN fn.spec_ReadEntry [v7] h).bind fun v52 => (kxt 0 v52).bind fun v53 => (kxt 1 v52).bind fun v54 => kalloc [(.int .i64 0), (.int .i64 0), (.int .i64 0), (.str { data := #[] })] h fun v10 h => (kstore 4 h v10 v53).bind fun h => n13 k G v2 v7 v8 v9 v10 v54 h
theorem n12_eq (G : KT4 R) (σ : GS) (h : Heap) : KC k 79 c12 σ h (fun x σ h => G x (σ 2) (σ 7) (σ 8) (σ 9) h) = n12 k G (σ 2) (σ 7) (σ 8) (σ 9) h := (kseq (a := c16) (b := c13) rfl (fun σ h => n13_eq k G σ h)).trans (by kernel_rfl)
@[simp] def n8 (G : KT1 R) (v2 v7 v8 v9 : GV) (h : Heap) : Option R := n12 k (fun x v2 v7 v8 v9 h => kx x (n9 k G v7 v8 v9 h) (G x v2 h)) v2 v7 v8 v9 h
theorem n8_eq (G : KT1 R) (σ : GS) (h : Heap) : KC k 79 c8 σ h (fun x σ h => G x (σ 2) h) = n8 k G (σ 2) (σ 7) (σ 8) (σ 9) h := (kseq (b := c9) rfl (fun σ h => n9_eq k G σ h)).trans (n12_eq k (fun x v2 v7 v8 v9 h => kx x (n9 k G v7 v8 v9 h) (G x v2 h)) σ h)
noncomputable def c17 : Code := cL c7
@[simp] def n7 (G : KT1 R) (v2 v7 : GV) (h : Heap) : Option R := (kN NN fn.impl_ReadEntry [v7] h).bind fun v47 => (kxt 0 v47).bind fun v48 => (kxt 1 v47).bind fun v49 => kalloc [(.int .i64 0), (.int .i64 0), (.int .i64 0), (.str { data := #[] })] h fun v8 h => (kstore 4 h v8 v48).bind fun h => n8 k G v2 v7 v8 v49 h
theorem n7_eq (G : KT1 R) (σ : GS) (h : Heap) : KC k 79 c7 σ h (fun x σ h => G x (σ 2) h) = n7 k G (σ 2) (σ 7) h := (kseq (a := c17) (b := c8) rfl (fun σ h => n8_eq k G σ h)).trans (by kernel_rfl)
noncomputable def c18 : Code := cL c6
@[simp] def n6 (G : KT1 R) (v0 v2 : GV) (h : Heap) : Option R := (kN NN fn.spec_DrawReadEntry [v0] h).bind fun v44 => n7 k G v2 v44 h
theorem n6_eq (G : KT1 R) (σ : GS) (h : Heap) : KC k 79 c6 σ h (fun x σ h => G x (σ 2) h) = n6 k G (σ 0) (σ 2) h := (kseq (a := c18) (b := c7) rfl (fun σ h => n7_eq k G σ h)).trans (by kernel_rfl)
noncomputable def c19 : Code := cL c5
noncomputable def c20 : Code := cR c19
noncomputable def c21 : Code := cL c20
noncomputable def c22 : Code := cR c21
noncomputable def c23 : Code := cR c22
@[simp] def n23 {R : Type} (k : Nat) (G : KT2 R) (v0 v2 v42 : GV) (h : Heap) : Option R := kcond v42 (G .ret v0 (.bool false) h) (G .nrm v0 v2 h)
theorem n23_eq (G : KT2 R) (σ : GS) (h : Heap) : KC k 79 c23 σ h (fun x σ h => G x (σ 0) (σ 2) h) = n23 k G (σ 0) (σ 2) (σ 42) h := by kernel_rfl
noncomputable def c24 : Code := cL c22
noncomputable def o24 : Array Oper := cO c24
@[simp] def g24_2 {R : Type} (k : Nat) (G : KT3 R) (v0 v2 v38 v41 : GV) (h : Heap) : Option R := (kpick v38 (.bool true) v41).bind fun v42 => G .nrm v0 v2 v42 h
theorem g24_2_eq (G : KT3 R) (σ : GS) (h : Heap) : kgroups PP cfg NN HH 79 o24 [(none, [6])] σ h (fun σ h => G .nrm (σ 0) (σ 2) (σ 42) h) = g24_2 k G (σ 0) (σ 2) (σ 38) (σ 41) h := by kernel_rfl
@[simp] def g24_1 (G : KT3 R) (v0 v2 v3 v5 v38 : GV) (h : Heap) : Option R := bif tr false v38 then (kloadA 4 h v5).bind fun v39 => (kloadA 4 h v3).bind fun v40 => (keqS PP .neq ty.impl_Entry v39 v40).bind fun v41 => g24_2 k G v0 v2 v38 v41 h else g24_2 k G v0 v2 v38 .un h
theorem g24_1_eq (G : KT3 R) (σ : GS) (h : Heap) : kgroups PP cfg NN HH 79 o24 [(some (2, false), [3, 4, 5]), (none, [6])] σ h (fun σ h => G .nrm (σ 0) (σ 2) (σ 42) h) = g24_1 k G (σ 0) (σ 2) (σ 3) (σ 5) (σ 38) h := (kgroups_cons (fun σ h => g24_2_eq k G σ h)).trans (by kernel_rfl)
@[simp] def g24_0 (G : KT3 R) (v0 v2 v3 v5 v6 : GV) (h : Heap) : Option R := (kun .not v6).bind fun v37 => g24_1 k G v0 v2 v3 v5 v37 h
theorem g24_0_eq (G : KT3 R) (σ : GS) (h : Heap) : kgroups PP cfg NN HH 79 o24 [(none, [0, 1, 2]), (some (2, false), [3, 4, 5]), (none, [6])] σ h (fun σ h => G .nrm (σ 0) (σ 2) (σ 42) h) = g24_0 k G (σ 0) (σ 2) (σ 3) (σ 5) (σ 6) h := (kgroups_cons (fun σ h => g24_1_eq k G σ h)).trans (by kernel_rfl)
@[simp] def n24 (G : KT3 R) (v0 v2 v3 v5 v6 : GV) (h : Heap) : Option R := g24_0 k G v0 v2 v3 v5 v6 h
theorem n24_eq (G : KT3 R) (σ : GS) (h : Heap) : KC k 79 c24 σ h (fun x σ h => G x (σ 0) (σ 2) (σ 42) h) = n24 k G (σ 0) (σ 2) (σ 3) (σ 5) (σ 6) h := (kregion_eq (id := 9) (draw := false) (ops := o24) (gs := [(none, [0, 1, 2]), (some (2, false), [3, 4, 5]), (none, [6])]) (by kernel_rfl) (by kernel_rfl) (by kernel_rfl)).trans (g24_0_eq k G σ h)
@[simp] def n22 (G : KT2 R) (v0 v2 v3 v5 v6 : GV) (h : Heap) : Option R := n24 k (fun x v0 v2 v42 h => kx x (n23 k G v0 v2 v42 h) (G x v0 v2 h)) v0 v2 v3 v5 v6 h
theorem n22_eq (G : KT2 R) (σ : GS) (h : Heap) : KC k 79 c22 σ h (fun x σ h => G x (σ 0) (σ 2) h) = n22 k G (σ 0) (σ 2) (σ 3) (σ 5) (σ 6) h := (kseq (b := c23) rfl (fun σ h => n23_eq k G σ h)).trans (n24_eq k (fun x v0 v2 v42 h => kx x (n23 k G v0 v2 v42 h) (G x v0 v2 h)) σ h)
noncomputable def c25 : Code := cL c21
@[simp] def n21 (G : KT2 R) (v0 v2 v3 v4 : GV) (h : Heap) : Option R := (kN NN fn.impl_ReadEntry [v4] h).bind fun v33 => (kxt 0 v33).bind fun v34 => (kxt 1 v33).bind fun v35 => kalloc [(.int .i64 0), (.int .i64 0), (.int .i64 0), (.str { data := #[] })] h fun v5 h => (kstore 4 h v5 v34).bind fun h => n22 k G v0 v2 v3 v5 v35 h
theorem n21_eq (G : KT2 R) (σ : GS) (h : Heap) : KC k 79 c21 σ h (fun x σ h => G x (σ 0) (σ 2) h) = n21 k G (σ 0) (σ 2) (σ 3) (σ 4) h := (kseq (a := c25) (b := c22) rfl (fun σ h => n22_eq k G σ h)).trans (by kernel_rfl)
noncomputable def c26 : Code := cR c20
@[simp] def n26 {R : Type} (k : Nat) (G : KT2 R) (v0 v2 : GV) (h : Heap) : Option R := G .nrm v0 v2 h
theorem n26_eq (G : KT2 R) (σ : GS) (h : Heap) : KC k 79 c26 σ h (fun x σ h => G x (σ 0) (σ 2) h) = n26 k G (σ 0) (σ 2) h := by kernel_rfl
@[simp] def n20 (G : KT2 R) (v0 v2 v3 v4 v30 : GV) (h : Heap) : Option R := kcond v30 (n21 k G v0 v2 v3 v4 h) (n26 k G v0 v2 h)
theorem n20_eq (G : KT2 R) (σ : GS) (h : Heap) : KC k 79 c20 σ h (fun x σ h => G x (σ 0) (σ 2) h) = n20 k G (σ 0) (σ 2) (σ 3) (σ 4) (σ 30) h := (kcond_eq (a := c21) (b := c26) rfl (by rfl)).trans (congr (congrArg (kcond (σ 30)) (n21_eq k G σ h)) (n26_eq k G σ h))
noncomputable def c27 : Code := cL c19
@[simp] def n19 (G : KT2 R) (v0 v2 v3 v4 : GV) (h : Heap) : Option R := (kbin .neq v4 (.str { data := #[] })).bind fun v30 => n20 k G v0 v2 v3 v4 v30 h
theorem n19_eq (G : KT2 R) (σ : GS) (h : Heap) : KC k 79 c19 σ h (fun x σ h => G x (σ 0) (σ 2) h) = n19 k G (σ 0) (σ 2) (σ 3) (σ 4) h := (kseq (a := c27) (b := c20) rfl (fun σ h => n20_eq k G σ h)).trans (by kernel_rfl)
@[simp] def n5 (G : KT1 R) (v0 v2 v3 v4 : GV) (h : Heap) : Option R := n19 k (fun x v0 v2 h => kx x (n6 k G v0 v2 h) (G x v2 h)) v0 v2 v3 v4 h
theorem n5_eq (G : KT1 R) (σ : GS) (h : Heap) : KC k 79 c5 σ h (fun x σ h => G x (σ 2) h) = n5 k G (σ 0) (σ 2) (σ 3) (σ 4) h := (kseq (b := c6) rfl (fun σ h => n6_eq k G σ h)).trans (n19_eq k (fun x v0 v2 h => kx x (n6 k G v0 v2 h) (G x v2 h)) σ h)
noncomputable def c28 : Code := cL c4
noncomputable def c29 : Code := cR c28
@[simp] def n29 {R : Type} (k : Nat) (G : KT4 R) (v0 v2 v3 v4 v28 : GV) (h : Heap) : Option R := kcond v28 (G .ret v0 (.bool false) v3 v4 h) (G .nrm v0 v2 v3 v4 h)
theorem n29_eq (G : KT4 R) (σ : GS) (h : Heap) : KC k 79 c29 σ h (fun x σ h => G x (σ 0) (σ 2) (σ 3) (σ 4) h) = n29 k G (σ 0) (σ 2) (σ 3) (σ 4) (σ 28) h := by kernel_rfl
noncomputable def c30 : Code := cL c28
noncomputable def o30 : Array Oper := cO c30
@[simp] def g30_2 {R : Type} (k : Nat) (G : KT5 R) (v0 v2 v3 v4 v22 v27 : GV) (h : Heap) : Option R := (kpick v22 (.bool true) v27).bind fun v28 => G .nrm v0 v2 v3 v4 v28 h
theorem g30_2_eq (G : KT5 R) (σ : GS) (h : Heap) : kgroups PP cfg NN HH 79 o30 [(none, [10])] σ h (fun σ h => G .nrm (σ 0) (σ 2) (σ 3) (σ 4) (σ 28) h) = g30_2 k G (σ 0) (σ 2) (σ 3) (σ 4) (σ 22) (σ 27) h := by kernel_rfl
@[simp] def g30_1 (G : KT5 R) (v0 v2 v3 v4 v22 : GV) (h : Heap) : Option R := bif tr false v22 then (kbin .neq v4 (.str { data := #[] })).bind fun v24 => (kloadA 4 h v3).bind fun v25 => (kN NN fn.impl_EntryOk [v25] h).bind fun v26 => (keqB .neq v24 v26).bind fun v27 => g30_2 k G v0 v2 v3 v4 v22 v27 h else g30_2 k G v0 v2 v3 v4 v22 .un h
theorem g30_1_eq (G : KT5 R) (σ : GS) (h : Heap) : kgroups PP cfg NN HH 79 o30 [(some (4, false), [5, 6, 7, 8, 9]), (none, [10])] σ h (fun σ h => G .nrm (σ 0) (σ 2) (σ 3) (σ 4) (σ 28) h) = g30_1 k G (σ 0) (σ 2) (σ 3) (σ 4) (σ 22) h := (kgroups_cons (fun σ h => g30_2_eq k G σ h)).trans (by kernel_rfl)
@[simp] def g30_0 (G : KT5 R) (v0 v2 v3 v4 : GV) (h : Heap) : Option R := (kloadA 4 h v3).bind fun v19 => (kN NN fn.spec_ShowEntry [v19] h).bind fun v20 => (kbin .neq v4 v20).bind fun v21 => g30_1 k G v0 v2 v3 v4 v21 h
theorem g30_0_eq (G : KT5 R) (σ : GS) (h : Heap) : kgroups PP cfg NN HH 79 o30 [(none, [0, 1, 2, 3, 4]), (some (4, false), [5, 6, 7, 8, 9]), (none, [10])] σ h (fun σ h => G .nrm (σ 0) (σ 2) (σ 3) (σ 4) (σ 28) h) = g30_0 k G (σ 0) (σ 2) (σ 3) (σ 4) h := (kgroups_cons (fun σ h => g30_1_eq k G σ h)).trans (by kernel_rfl)
@[simp] def n30 (G : KT5 R) (v0 v2 v3 v4 : GV) (h : Heap) : Option R := g30_0 k G v0 v2 v3 v4 h
theorem n30_eq (G : KT5 R) (σ : GS) (h : Heap) : KC k 79 c30 σ h (fun x σ h => G x (σ 0) (σ 2) (σ 3) (σ 4) (σ 28) h) = n30 k G (σ 0) (σ 2) (σ 3) (σ 4) h := (kregion_eq (id := 5) (draw := false) (ops := o30) (gs := [(none, [0, 1, 2, 3, 4]), (some (4, false), [5, 6, 7, 8, 9]), (none, [10])]) (by kernel_rfl) (by kernel_rfl) (by kernel_rfl)).trans (g30_0_eq k G σ h)
@[simp] def n28 (G : KT4 R) (v0 v2 v3 v4 : GV) (h : Heap) : Option R := n30 k (fun x v0 v2 v3 v4 v28 h => kx x (n29 k G v0 v2 v3 v4 v28 h) (G x v0 v2 v3 v4 h)) v0 v2 v3 v4 h
theorem n28_eq (G : KT4 R) (σ : GS) (h : Heap) : KC k 79 c28 σ h (fun x σ h => G x (σ 0) (σ 2) (σ 3) (σ 4) h) = n28 k G (σ 0) (σ 2) (σ 3) (σ 4) h := (kseq (b := c29) rfl (fun σ h => n29_eq k G σ h)).trans (n30_eq k (fun x v0 v2 v3 v4 v28 h => kx x (n29 k G v0 v2 v3 v4 v28 h) (G x v0 v2 v3 v4 h)) σ h)
@[simp] def n4 (G : KT1 R) (v0 v2 v3 v4 : GV) (h : Heap) : Option R := n28 k (fun x v0 v2 v3 v4 h => kx x (n5 k G v0 v2 v3 v4 h) (G x v2 h)) v0 v2 v3 v4 h
theorem n4_eq (G : KT1 R) (σ : GS) (h : Heap) : KC k 79 c4 σ h (fun x σ h => G x (σ 2) h) = n4 k G (σ 0) (σ 2) (σ 3) (σ 4) h := (kseq (b := c5) rfl (fun σ h => n5_eq k G σ h)).trans (n28_eq k (fun x v0 v2 v3 v4 h => kx x (n5 k G v0 v2 v3 v4 h) (G x v2 h)) σ h)
noncomputable def c31 : Code := cL c3
@[simp] def n3 (G : KT1 R) (v0 v2 v3 : GV) (h : Heap) : Option R := (kloadA 4 h v3).bind fun v16 => (kN NN fn.impl_ShowEntry [v16] h).bind fun v17 => n4 k G v0 v2 v3 v17 h
theorem n3_eq (G : KT1 R) (σ : GS) (h : Heap) : KC k 79 c3 σ h (fun x σ h => G x (σ 2) h) = n3 k G (σ 0) (σ 2) (σ 3) h := (kseq (a := c31) (b := c4) rfl (fun σ h => n4_eq k G σ h)).trans (by kernel_rfl)
noncomputable def c32 : Code := cL c2
@[simp] def n2 (G : KT1 R) (v0 v2 : GV) (h : Heap) : Option R := (kN NN fn.spec_DrawShowEntry [v0] h).bind fun v15 => kalloc [(.int .i64 0), (.int .i64 0), (.int .i64 0), (.str { data := #[] })] h fun v3 h => (kstore 4 h v3 v15).bind fun h => n3 k G v0 v2 v3 h
theorem n2_eq (G : KT1 R) (σ : GS) (h : Heap) : KC k 79 c2 σ h (fun x σ h => G x (σ 2) h) = n2 k G (σ 0) (σ 2) h := (kseq (a := c32) (b := c3) rfl (fun σ h => n3_eq k G σ h)).trans (by kernel_rfl)
noncomputable def c33 : Code := cL c1
@[simp] def n1 (G : KT1 R) (v0 v2 : GV) (h : Heap) : Option R := (kN NN fn.laws_big [v0] h).bind fun v13 => kcond v13 (G .ret (.bool true) h) (n2 k G v0 v2 h)
theorem n1_eq (G : KT1 R) (σ : GS) (h : Heap) : KC k 79 c1 σ h (fun x σ h => G x (σ 2) h) = n1 k G (σ 0) (σ 2) h := (kseq (a := c33) (b := c2) rfl (fun σ h => n2_eq k G σ h)).trans (by kernel_rfl)
noncomputable def c34 : Code := cL c0
@[simp] def n0 (G : KT1 R) (v0 : GV) (h : Heap) : Option R := n1 k G v0 (.bool false) h
theorem n0_eq (G : KT1 R) (σ : GS) (h : Heap) : KC k 79 c0 σ h (fun x σ h => G x (σ 2) h) = n0 k G (σ 0) h := (kseq (a := c34) (b := c1) rfl (fun σ h => n1_eq k G σ h)).trans (by kernel_rfl)
def run {R : Type} (k : Nat) (a0 : GV) (h : Heap) (fin : GV → Heap → Option R) : Option R := n0 k (fun x v2 h => kend x (fin v2 h)) a0 h
theorem run_eq {R : Type} (k : Nat) (a0 : GV) (h : Heap) (fin : GV → Heap → Option R) : kfun PP cfg NN HH k fn.laws_FnEntries [a0] h fin = run k a0 h fin := (kfun_eq (nt := 79) (c := c0) (show PP.funcs[fn.laws_FnEntries]? = some Tryd.f11 by kernel_rfl) (by kernel_rfl) (by kernel_rfl) (fun x σ h => by cases x <;> kernel_rfl)).trans (n0_eq k (fun x v2 h => kend x (fin v2 h)) _ h)
theorem gives {k : Nat} {a0 : GV} {v : GV} (e : run k a0 [] finN = some v) : NN fn.laws_FnEntries [a0] = some v := nω_of (by kernel_rfl) ((run_eq k a0 [] finN).trans e)
end S.laws_FnEntries
/-! spec_DrawShowEntry -/
namespace S.spec_DrawShowEntry
noncomputable def c0 : Code := bodyOf Tryd.f54
@[simp] def n0 {R : Type} (k : Nat) (G : KT1 R) (v0 : GV) (h : Heap) : Option R := kalloc [(.int .i64 0), (.int .i64 0), (.int .i64 0), (.str { data := #[] })] h fun v2 h => (kN NN fn.spec_DrawEntryOk [v0] h).bind fun v4 => (kstore 4 h v2 v4).bind fun h => G .ret v2 h
theorem n0_eq (G : KT1 R) (σ : GS) (h : Heap) : KC k 5 c0 σ h (fun x σ h => G x (σ 2) h) = n0 k G (σ 0) h := by kernel_rfl
def run {R : Type} (k : Nat) (a0 : GV) (h : Heap) (fin : GV → Heap → Option R) : Option R := n0 k (fun x v2 h => kend x ((kloadA 4 h v2).bind fun w2 => fin w2 h)) a0 h
theorem run_eq {R : Type} (k : Nat) (a0 : GV) (h : Heap) (fin : GV → Heap → Option R) : kfun PP cfg NN HH k fn.spec_DrawShowEntry [a0] h fin = run k a0 h fin := (kfun_eq (nt := 5) (c := c0) (show PP.funcs[fn.spec_DrawShowEntry]? = some Tryd.f54 by kernel_rfl) (by kernel_rfl) (by kernel_rfl) (fun x σ h => by cases x <;> kernel_rfl)).trans (n0_eq k (fun x v2 h => kend x ((kloadA 4 h v2).bind fun w2 => fin w2 h)) _ h)
theorem gives {k : Nat} {a0 : GV} {v : GV} (e : run k a0 [] finN = some v) : NN fn.spec_DrawShowEntry [a0] = some v := nω_of (by kernel_rfl) ((run_eq k a0 [] finN).trans e)
end S.spec_DrawShowEntry
/-! spec_DrawReadEntry -/
namespace S.spec_DrawReadEntry
noncomputable def c0 : Code := bodyOf Tryd.f56
noncomputable def c1 : Code := cR c0
noncomputable def c2 : Code := cR c1
noncomputable def c3 : Code := cR c2
noncomputable def c4 : Code := cR c3
@[simp] def n4 {R : Type} (k : Nat) (G : KT1 R) (v4 : GV) (h : Heap) : Option R := G .ret v4 h
theorem n4_eq (G : KT1 R) (σ : GS) (h : Heap) : KC k 16 c4 σ h (fun x σ h => G x (σ 2) h) = n4 k G (σ 4) h := by kernel_rfl
noncomputable def c5 : Code := cL c3
@[simp] def n3 (G : KT1 R) (v2 v3 v4 : GV) (h : Heap) : Option R := (HH fn.spec_l1Once [v3, (.int .i64 2)] h).bind fun r => kr r fun v11 h => kcond v11 ((HH fn.spec_l13Bend [v3, v4, (.str { data := #[48, 49, 97, 32, 107, 115] })] h).bind fun r => kr r fun v14 h => n4 k G v14 h) (n4 k G v4 h)
theorem n3_eq (G : KT1 R) (σ : GS) (h : Heap) : KC k 16 c3 σ h (fun x σ h => G x (σ 2) h) = n3 k G (σ 2) (σ 3) (σ 4) h := (kseq (a := c5) (b := c4) rfl (fun σ h => n4_eq k G σ h)).trans (by kernel_rfl)
noncomputable def c6 : Code := cL c2
@[simp] def n2 (G : KT1 R) (v2 v3 : GV) (h : Heap) : Option R := (HH fn.spec_l18DrawAny [v3] h).bind fun r => kr r fun v8 h => (kN NN fn.spec_ShowEntry [v8] h).bind fun v9 => n3 k G v2 v3 v9 h
theorem n2_eq (G : KT1 R) (σ : GS) (h : Heap) : KC k 16 c2 σ h (fun x σ h => G x (σ 2) h) = n2 k G (σ 2) (σ 3) h := (kseq (a := c6) (b := c3) rfl (fun σ h => n3_eq k G σ h)).trans (by kernel_rfl)
noncomputable def c7 : Code := cL c1
@[simp] def n1 (G : KT1 R) (v0 v2 : GV) (h : Heap) : Option R := (HH fn.spec_l1New [v0] h).bind fun r => kr r fun v6 h => n2 k G v2 v6 h
theorem n1_eq (G : KT1 R) (σ : GS) (h : Heap) : KC k 16 c1 σ h (fun x σ h => G x (σ 2) h) = n1 k G (σ 0) (σ 2) h := (kseq (a := c7) (b := c2) rfl (fun σ h => n2_eq k G σ h)).trans (by kernel_rfl)
noncomputable def c8 : Code := cL c0
@[simp] def n0 (G : KT1 R) (v0 : GV) (h : Heap) : Option R := n1 k G v0 (.str { data := #[] }) h
theorem n0_eq (G : KT1 R) (σ : GS) (h : Heap) : KC k 16 c0 σ h (fun x σ h => G x (σ 2) h) = n0 k G (σ 0) h := (kseq (a := c8) (b := c1) rfl (fun σ h => n1_eq k G σ h)).trans (by kernel_rfl)
def run {R : Type} (k : Nat) (a0 : GV) (h : Heap) (fin : GV → Heap → Option R) : Option R := n0 k (fun x v2 h => kend x (fin v2 h)) a0 h
theorem run_eq {R : Type} (k : Nat) (a0 : GV) (h : Heap) (fin : GV → Heap → Option R) : kfun PP cfg NN HH k fn.spec_DrawReadEntry [a0] h fin = run k a0 h fin := (kfun_eq (nt := 16) (c := c0) (show PP.funcs[fn.spec_DrawReadEntry]? = some Tryd.f56 by kernel_rfl) (by kernel_rfl) (by kernel_rfl) (fun x σ h => by cases x <;> kernel_rfl)).trans (n0_eq k (fun x v2 h => kend x (fin v2 h)) _ h)
theorem gives {k : Nat} {a0 : GV} {v : GV} (e : run k a0 [] finN = some v) : NN fn.spec_DrawReadEntry [a0] = some v := nω_of (by kernel_rfl) ((run_eq k a0 [] finN).trans e)
end S.spec_DrawReadEntry
/-! spec_DrawEntryOk -/
namespace S.spec_DrawEntryOk
noncomputable def c0 : Code := bodyOf Tryd.f103
@[simp] def n0 {R : Type} (k : Nat) (G : KT1 R) (v0 : GV) (h : Heap) : Option R := kalloc [(.int .i64 0), (.int .i64 0), (.int .i64 0), (.str { data := #[] })] h fun v2 h => (HH fn.spec_l1New [v0] h).bind fun r => kr r fun v5 h => (HH fn.spec_l18DrawAny [v5] h).bind fun r => kr r fun v7 h => (kstore 4 h v2 v7).bind fun h => G .ret v2 h
theorem n0_eq (G : KT1 R) (σ : GS) (h : Heap) : KC k 8 c0 σ h (fun x σ h => G x (σ 2) h) = n0 k G (σ 0) h := by kernel_rfl
def run {R : Type} (k : Nat) (a0 : GV) (h : Heap) (fin : GV → Heap → Option R) : Option R := n0 k (fun x v2 h => kend x ((kloadA 4 h v2).bind fun w2 => fin w2 h)) a0 h
theorem run_eq {R : Type} (k : Nat) (a0 : GV) (h : Heap) (fin : GV → Heap → Option R) : kfun PP cfg NN HH k fn.spec_DrawEntryOk [a0] h fin = run k a0 h fin := (kfun_eq (nt := 8) (c := c0) (show PP.funcs[fn.spec_DrawEntryOk]? = some Tryd.f103 by kernel_rfl) (by kernel_rfl) (by kernel_rfl) (fun x σ h => by cases x <;> kernel_rfl)).trans (n0_eq k (fun x v2 h => kend x ((kloadA 4 h v2).bind fun w2 => fin w2 h)) _ h)
theorem gives {k : Nat} {a0 : GV} {v : GV} (e : run k a0 [] finN = some v) : NN fn.spec_DrawEntryOk [a0] = some v := nω_of (by kernel_rfl) ((run_eq k a0 [] finN).trans e)
end S.spec_DrawEntryOk
/-! spec_l18DrawAny -/
namespace S.spec_l18DrawAny
noncomputable def c0 : Code := bodyOf Tryd.f106
noncomputable def c1 : Code := cR c0
noncomputable def c2 : Code := cR c1
noncomputable def c3 : Code := cR c2
@[simp] def n3 {R : Type} (k : Nat) (G : KT1 R) (v2 v3 : GV) (h : Heap) : Option R := (kloadA 4 h v3).bind fun v41 => (kstore 4 h v2 v41).bind fun h => G .ret v2 h
theorem n3_eq (G : KT1 R) (σ : GS) (h : Heap) : KC k 42 c3 σ h (fun x σ h => G x (σ 2) h) = n3 k G (σ 2) (σ 3) h := by kernel_rfl
noncomputable def c4 : Code := cL c2
noncomputable def c5 : Code := cR c4
noncomputable def c6 : Code := cL c5
noncomputable def c7 : Code := cR c6
noncomputable def c8 : Code := cL c7
@[simp] def n8 {R : Type} (k : Nat) (G : KT2 R) (v0 v2 v3 v9 : GV) (h : Heap) : Option R := (kbin .eql v9 (.int .i64 0)).bind fun v11 => kcond v11 ((HH fn.spec_l1From [v0, (.int .i64 0), (.int .i64 5)] h).bind fun r => kr r fun v13 h => (kfa 0 v3).bind fun v14 => (kstore 1 h v14 v13).bind fun h => G .nrm v2 v3 h) ((kbin .eql v9 (.int .i64 1)).bind fun v16 => kcond v16 ((gfill (fun i => some (i * 1, 1)) (zeros [(.int .i64 0)] 6) [(0, (.int .i64 (-1))), (1, (.int .i64 0)), (2, (.int .i64 3)), (3, (.int .i64 4)), (4, (.int .i64 60)), (5, (.int .i64 61))]).bind fun c => kbs 6 1 c h fun v17 h => (HH fn.spec_l1Below [v0, (.int .i64 6)] h).bind fun r => kr r fun v19 h => (kia 1 v17 v19).bind fun v20 => (kload1 h v20).bind fun v21 => (kfa 1 v3).bind fun v22 => (kstore 1 h v22 v21).bind fun h => G .nrm v2 v3 h) ((kbin .eql v9 (.int .i64 2)).bind fun v24 => kcond v24 ((gfill (fun i => some (i * 1, 1)) (zeros [(.int .i64 0)] 6) [(0, (.int .i64 0)), (1, (.int .i64 30)), (2, (.int .i64 31)), (3, (.int .i64 10000)), (4, (.int .i64 10001)), (5, (.int .i64 (-9223372036854775808)))]).bind fun c => kbs 6 1 c h fun v25 h => (HH fn.spec_l1Below [v0, (.int .i64 6)] h).bind fun r => kr r fun v27 h => (kia 1 v25 v27).bind fun v28 => (kload1 h v28).bind fun v29 => (kfa 2 v3).bind fun v30 => (kstore 1 h v30 v29).bind fun h => G .nrm v2 v3 h) ((kbin .eql v9 (.int .i64 3)).bind fun v32 => kcond v32 ((gfill (fun i => some (i * 1, 1)) (zeros [(.int .i64 0)] 5) [(0, (.int .i64 0)), (1, (.int .i64 20)), (2, (.int .i64 21)), (3, (.int .i64 60)), (4, (.int .i64 61))]).bind fun c => kbs 5 1 c h fun v33 h => (HH fn.spec_l1Below [v0, (.int .i64 5)] h).bind fun r => kr r fun v35 h => (kia 1 v33 v35).bind fun v36 => (kload1 h v36).bind fun v37 => (kmake [(.int .u8 0)] 1 1 v37 v37 h).bind fun r => kr r fun v38 h => (kbstr h v38).bind fun v39 => (kfa 3 v3).bind fun v40 => (kstore 1 h v40 v39).bind fun h => G .nrm v2 v3 h) (G .nrm v2 v3 h))))
theorem n8_eq (G : KT2 R) (σ : GS) (h : Heap) : KC k 42 c8 σ h (fun x σ h => G x (σ 2) (σ 3) h) = n8 k G (σ 0) (σ 2) (σ 3) (σ 9) h := by kernel_rfl
@[simp] def n7 (G : KT2 R) (v0 v2 v3 v9 : GV) (h : Heap) : Option R := n8 k (fun x v2 v3 h => kb 0 x fun x => G x v2 v3 h) v0 v2 v3 v9 h
theorem n7_eq (G : KT2 R) (σ : GS) (h : Heap) : KC k 42 c7 σ h (fun x σ h => G x (σ 2) (σ 3) h) = n7 k G (σ 0) (σ 2) (σ 3) (σ 9) h := (kblock_eq (a := c8) rfl).trans (n8_eq k (fun x v2 v3 h => kb 0 x fun x => G x v2 v3 h) σ h)
noncomputable def c9 : Code := cL c6
@[simp] def n6 (G : KT2 R) (v0 v2 v3 : GV) (h : Heap) : Option R := (HH fn.spec_l1Below [v0, (.int .i64 4)] h).bind fun r => kr r fun v9 h => n7 k G v0 v2 v3 v9 h
theorem n6_eq (G : KT2 R) (σ : GS) (h : Heap) : KC k 42 c6 σ h (fun x σ h => G x (σ 2) (σ 3) h) = n6 k G (σ 0) (σ 2) (σ 3) h := (kseq (a := c9) (b := c7) rfl (fun σ h => n7_eq k G σ h)).trans (by kernel_rfl)
noncomputable def c10 : Code := cR c5
@[simp] def n10 {R : Type} (k : Nat) (G : KT2 R) (v2 v3 : GV) (h : Heap) : Option R := G .nrm v2 v3 h
theorem n10_eq (G : KT2 R) (σ : GS) (h : Heap) : KC k 42 c10 σ h (fun x σ h => G x (σ 2) (σ 3) h) = n10 k G (σ 2) (σ 3) h := by kernel_rfl
@[simp] def n5 (G : KT2 R) (v0 v2 v3 v7 : GV) (h : Heap) : Option R := kcond v7 (n6 k G v0 v2 v3 h) (n10 k G v2 v3 h)
theorem n5_eq (G : KT2 R) (σ : GS) (h : Heap) : KC k 42 c5 σ h (fun x σ h => G x (σ 2) (σ 3) h) = n5 k G (σ 0) (σ 2) (σ 3) (σ 7) h := (kcond_eq (a := c6) (b := c10) rfl (by rfl)).trans (congr (congrArg (kcond (σ 7)) (n6_eq k G σ h)) (n10_eq k G σ h))
noncomputable def c11 : Code := cL c4
@[simp] def n4 (G : KT2 R) (v0 v2 v3 : GV) (h : Heap) : Option R := (HH fn.spec_l1Once [v0, (.int .i64 12)] h).bind fun r => kr r fun v7 h => n5 k G v0 v2 v3 v7 h
theorem n4_eq (G : KT2 R) (σ : GS) (h : Heap) : KC k 42 c4 σ h (fun x σ h => G x (σ 2) (σ 3) h) = n4 k G (σ 0) (σ 2) (σ 3) h := (kseq (a := c11) (b := c5) rfl (fun σ h => n5_eq k G σ h)).trans (by kernel_rfl)
@[simp] def n2 (G : KT1 R) (v0 v2 v3 : GV) (h : Heap) : Option R := n4 k (fun x v2 v3 h => kx x (n3 k G v2 v3 h) (G x v2 h)) v0 v2 v3 h
theorem n2_eq (G : KT1 R) (σ : GS) (h : Heap) : KC k 42 c2 σ h (fun x σ h => G x (σ 2) h) = n2 k G (σ 0) (σ 2) (σ 3) h := (kseq (b := c3) rfl (fun σ h => n3_eq k G σ h)).trans (n4_eq k (fun x v2 v3 h => kx x (n3 k G v2 v3 h) (G x v2 h)) σ h)
noncomputable def c12 : Code := cL c1
@[simp] def n1 (G : KT1 R) (v0 v2 : GV) (h : Heap) : Option R := (HH fn.spec_l18DrawEntry [v0] h).bind fun r => kr r fun v5 h => kalloc [(.int .i64 0), (.int .i64 0), (.int .i64 0), (.str { data := #[] })] h fun v3 h => (kstore 4 h v3 v5).bind fun h => n2 k G v0 v2 v3 h
theorem n1_eq (G : KT1 R) (σ : GS) (h : Heap) : KC k 42 c1 σ h (fun x σ h => G x (σ 2) h) = n1 k G (σ 0) (σ 2) h := (kseq (a := c12) (b := c2) rfl (fun σ h => n2_eq k G σ h)).trans (by kernel_rfl)
noncomputable def c13 : Code := cL c0
@[simp] def n0 (G : KT1 R) (v0 : GV) (h : Heap) : Option R := kalloc [(.int .i64 0), (.int .i64 0), (.int .i64 0), (.str { data := #[] })] h fun v2 h => n1 k G v0 v2 h
theorem n0_eq (G : KT1 R) (σ : GS) (h : Heap) : KC k 42 c0 σ h (fun x σ h => G x (σ 2) h) = n0 k G (σ 0) h := (kseq (a := c13) (b := c1) rfl (fun σ h => n1_eq k G σ h)).trans (by kernel_rfl)
def run {R : Type} (k : Nat) (a0 : GV) (h : Heap) (fin : GV → Heap → Option R) : Option R := n0 k (fun x v2 h => kend x ((kloadA 4 h v2).bind fun w2 => fin w2 h)) a0 h
theorem run_eq {R : Type} (k : Nat) (a0 : GV) (h : Heap) (fin : GV → Heap → Option R) : kfun PP cfg NN HH k fn.spec_l18DrawAny [a0] h fin = run k a0 h fin := (kfun_eq (nt := 42) (c := c0) (show PP.funcs[fn.spec_l18DrawAny]? = some Tryd.f106 by kernel_rfl) (by kernel_rfl) (by kernel_rfl) (fun x σ h => by cases x <;> kernel_rfl)).trans (n0_eq k (fun x v2 h => kend x ((kloadA 4 h v2).bind fun w2 => fin w2 h)) _ h)
theorem gives {k : Nat} {a0 : GV} {h : Heap} {r : GV × Heap} (e : run k a0 h finH = some r) : HH fn.spec_l18DrawAny [a0] h = some r := kω_of ((run_eq k a0 h finH).trans e)
end S.spec_l18DrawAny
/-! spec_l18DrawEntry -/
namespace S.spec_l18DrawEntry
noncomputable def c0 : Code := bodyOf Tryd.f154
noncomputable def c1 : Code := cR c0
noncomputable def c2 : Code := cR c1
noncomputable def c3 : Code := cR c2
noncomputable def c4 : Code := cR c3
@[simp] def n4 {R : Type} (k : Nat) (G : KT1 R) (v2 v3 : GV) (h : Heap) : Option R := (gfill (fun i => [(0, 1), (1, 1), (2, 1), (3, 1)][i]?) [(.int .i64 0), (.int .i64 0), (.int .i64 0), (.str { data := #[] })] [(0, (.int .i64 2)), (3, v3)]).bind fun c => kagg c h fun v40 h => (kstore 4 h v2 v40).bind fun h => G .ret v2 h
theorem n4_eq (G : KT1 R) (σ : GS) (h : Heap) : KC k 41 c4 σ h (fun x σ h => G x (σ 2) h) = n4 k G (σ 2) (σ 3) h := by kernel_rfl
noncomputable def c5 : Code := cL c3
noncomputable def c6 : Code := cR c5
@[simp] def n6 {R : Type} (k : Nat) (G : KT2 R) (v2 v3 v38 : GV) (h : Heap) : Option R := kcond v38 (G .nrm v2 (.str { data := #[111, 117, 116] }) h) (G .nrm v2 v3 h)
theorem n6_eq (G : KT2 R) (σ : GS) (h : Heap) : KC k 41 c6 σ h (fun x σ h => G x (σ 2) (σ 3) h) = n6 k G (σ 2) (σ 3) (σ 38) h := by kernel_rfl
noncomputable def c7 : Code := cL c5
noncomputable def o7 : Array Oper := cO c7
@[simp] def g7_2 {R : Type} (k : Nat) (G : KT3 R) (v2 v3 v34 v37 : GV) (h : Heap) : Option R := (kpick v34 (.bool true) v37).bind fun v38 => G .nrm v2 v3 v38 h
theorem g7_2_eq (G : KT3 R) (σ : GS) (h : Heap) : kgroups PP cfg NN HH 41 o7 [(none, [7])] σ h (fun σ h => G .nrm (σ 2) (σ 3) (σ 38) h) = g7_2 k G (σ 2) (σ 3) (σ 34) (σ 37) h := by kernel_rfl
@[simp] def g7_1 (G : KT3 R) (v2 v3 v34 : GV) (h : Heap) : Option R := bif tr false v34 then (klenS v3).bind fun v36 => (kbin .gtr v36 (.int .i64 60)).bind fun v37 => g7_2 k G v2 v3 v34 v37 h else g7_2 k G v2 v3 v34 .un h
theorem g7_1_eq (G : KT3 R) (σ : GS) (h : Heap) : kgroups PP cfg NN HH 41 o7 [(some (3, false), [4, 5, 6]), (none, [7])] σ h (fun σ h => G .nrm (σ 2) (σ 3) (σ 38) h) = g7_1 k G (σ 2) (σ 3) (σ 34) h := (kgroups_cons (fun σ h => g7_2_eq k G σ h)).trans (by kernel_rfl)
@[simp] def g7_0 (G : KT3 R) (v2 v3 : GV) (h : Heap) : Option R := (klenS v3).bind fun v32 => (kbin .lss v32 (.int .i64 1)).bind fun v33 => g7_1 k G v2 v3 v33 h
theorem g7_0_eq (G : KT3 R) (σ : GS) (h : Heap) : kgroups PP cfg NN HH 41 o7 [(none, [0, 1, 2, 3]), (some (3, false), [4, 5, 6]), (none, [7])] σ h (fun σ h => G .nrm (σ 2) (σ 3) (σ 38) h) = g7_0 k G (σ 2) (σ 3) h := (kgroups_cons (fun σ h => g7_1_eq k G σ h)).trans (by kernel_rfl)
@[simp] def n7 (G : KT3 R) (v2 v3 : GV) (h : Heap) : Option R := g7_0 k G v2 v3 h
theorem n7_eq (G : KT3 R) (σ : GS) (h : Heap) : KC k 41 c7 σ h (fun x σ h => G x (σ 2) (σ 3) (σ 38) h) = n7 k G (σ 2) (σ 3) h := (kregion_eq (id := 8) (draw := false) (ops := o7) (gs := [(none, [0, 1, 2, 3]), (some (3, false), [4, 5, 6]), (none, [7])]) (by kernel_rfl) (by kernel_rfl) (by kernel_rfl)).trans (g7_0_eq k G σ h)
@[simp] def n5 (G : KT2 R) (v2 v3 : GV) (h : Heap) : Option R := n7 k (fun x v2 v3 v38 h => kx x (n6 k G v2 v3 v38 h) (G x v2 v3 h)) v2 v3 h
theorem n5_eq (G : KT2 R) (σ : GS) (h : Heap) : KC k 41 c5 σ h (fun x σ h => G x (σ 2) (σ 3) h) = n5 k G (σ 2) (σ 3) h := (kseq (b := c6) rfl (fun σ h => n6_eq k G σ h)).trans (n7_eq k (fun x v2 v3 v38 h => kx x (n6 k G v2 v3 v38 h) (G x v2 v3 h)) σ h)
@[simp] def n3 (G : KT1 R) (v2 v3 : GV) (h : Heap) : Option R := n5 k (fun x v2 v3 h => kx x (n4 k G v2 v3 h) (G x v2 h)) v2 v3 h
theorem n3_eq (G : KT1 R) (σ : GS) (h : Heap) : KC k 41 c3 σ h (fun x σ h => G x (σ 2) h) = n3 k G (σ 2) (σ 3) h := (kseq (b := c4) rfl (fun σ h => n4_eq k G σ h)).trans (n5_eq k (fun x v2 v3 h => kx x (n4 k G v2 v3 h) (G x v2 h)) σ h)
noncomputable def c8 : Code := cL c2
@[simp] def n2 (G : KT1 R) (v0 v2 : GV) (h : Heap) : Option R := (HH fn.spec_l6DrawText [v0] h).bind fun r => kr r fun v30 h => n3 k G v2 v30 h
theorem n2_eq (G : KT1 R) (σ : GS) (h : Heap) : KC k 41 c2 σ h (fun x σ h => G x (σ 2) h) = n2 k G (σ 0) (σ 2) h := (kseq (a := c8) (b := c3) rfl (fun σ h => n3_eq k G σ h)).trans (by kernel_rfl)
noncomputable def c9 : Code := cL c1
noncomputable def c10 : Code := cR c9
noncomputable def c11 : Code := cL c10
noncomputable def c12 : Code := cR c11
@[simp] def n12 {R : Type} (k : Nat) (G : KT2 R) (v0 v2 v5 v6 : GV) (h : Heap) : Option R := kcond v6 ((HH fn.spec_l1Below [v0, (.int .i64 2)] h).bind fun r => kr r fun v10 h => (HH fn.spec_l1Below [v0, (.int .i64 4)] h).bind fun r => kr r fun v12 h => (kbin .add (.int .i64 1) v12).bind fun v13 => (gfill (fun i => some (i * 1, 1)) (zeros [(.str { data := #[] })] 4) [(0, (.str { data := #[97] })), (1, (.str { data := #[98, 99] })), (2, (.str { data := #[27, 91, 65] })), (3, (.str { data := #[13] }))]).bind fun c => kbs 4 1 c h fun v14 h => (HH fn.spec_l1Below [v0, (.int .i64 4)] h).bind fun r => kr r fun v16 h => (kia 1 v14 v16).bind fun v17 => (kload1 h v17).bind fun v18 => (gfill (fun i => [(0, 1), (1, 1), (2, 1), (3, 1)][i]?) [(.int .i64 0), (.int .i64 0), (.int .i64 0), (.str { data := #[] })] [(0, (.int .i64 1)), (1, v10), (2, v13), (3, v18)]).bind fun c => kagg c h fun v19 h => (kstore 4 h v2 v19).bind fun h => G .ret v0 v2 h) ((kbin .eql v5 (.int .i64 2)).bind fun v21 => kcond v21 ((HH fn.spec_l1Below [v0, (.int .i64 12)] h).bind fun r => kr r fun v23 h => (kbin .add (.int .i64 4) v23).bind fun v24 => (HH fn.spec_l1Below [v0, (.int .i64 5)] h).bind fun r => kr r fun v26 h => (kbin .add (.int .i64 1) v26).bind fun v27 => (gfill (fun i => [(0, 1), (1, 1), (2, 1), (3, 1)][i]?) [(.int .i64 0), (.int .i64 0), (.int .i64 0), (.str { data := #[] })] [(0, (.int .i64 3)), (1, v24), (2, v27)]).bind fun c => kagg c h fun v28 h => (kstore 4 h v2 v28).bind fun h => G .ret v0 v2 h) (G .nrm v0 v2 h))
theorem n12_eq (G : KT2 R) (σ : GS) (h : Heap) : KC k 41 c12 σ h (fun x σ h => G x (σ 0) (σ 2) h) = n12 k G (σ 0) (σ 2) (σ 5) (σ 6) h := by kernel_rfl
noncomputable def c13 : Code := cL c11
@[simp] def n11 (G : KT2 R) (v0 v2 v5 : GV) (h : Heap) : Option R := (kbin .eql v5 (.int .i64 0)).bind fun v7 => kcond v7 (n12 k G v0 v2 v5 v7 h) ((kbin .eql v5 (.int .i64 1)).bind fun v8 => n12 k G v0 v2 v5 v8 h)
theorem n11_eq (G : KT2 R) (σ : GS) (h : Heap) : KC k 41 c11 σ h (fun x σ h => G x (σ 0) (σ 2) h) = n11 k G (σ 0) (σ 2) (σ 5) h := (kseq (a := c13) (b := c12) rfl (fun σ h => n12_eq k G σ h)).trans (by kernel_rfl)
@[simp] def n10 (G : KT2 R) (v0 v2 v5 : GV) (h : Heap) : Option R := n11 k (fun x v0 v2 h => kb 0 x fun x => G x v0 v2 h) v0 v2 v5 h
theorem n10_eq (G : KT2 R) (σ : GS) (h : Heap) : KC k 41 c10 σ h (fun x σ h => G x (σ 0) (σ 2) h) = n10 k G (σ 0) (σ 2) (σ 5) h := (kblock_eq (a := c11) rfl).trans (n11_eq k (fun x v0 v2 h => kb 0 x fun x => G x v0 v2 h) σ h)
noncomputable def c14 : Code := cL c9
@[simp] def n9 (G : KT2 R) (v0 v2 : GV) (h : Heap) : Option R := (HH fn.spec_l1Below [v0, (.int .i64 5)] h).bind fun r => kr r fun v5 h => n10 k G v0 v2 v5 h
theorem n9_eq (G : KT2 R) (σ : GS) (h : Heap) : KC k 41 c9 σ h (fun x σ h => G x (σ 0) (σ 2) h) = n9 k G (σ 0) (σ 2) h := (kseq (a := c14) (b := c10) rfl (fun σ h => n10_eq k G σ h)).trans (by kernel_rfl)
@[simp] def n1 (G : KT1 R) (v0 v2 : GV) (h : Heap) : Option R := n9 k (fun x v0 v2 h => kx x (n2 k G v0 v2 h) (G x v2 h)) v0 v2 h
theorem n1_eq (G : KT1 R) (σ : GS) (h : Heap) : KC k 41 c1 σ h (fun x σ h => G x (σ 2) h) = n1 k G (σ 0) (σ 2) h := (kseq (b := c2) rfl (fun σ h => n2_eq k G σ h)).trans (n9_eq k (fun x v0 v2 h => kx x (n2 k G v0 v2 h) (G x v2 h)) σ h)
noncomputable def c15 : Code := cL c0
@[simp] def n0 (G : KT1 R) (v0 : GV) (h : Heap) : Option R := kalloc [(.int .i64 0), (.int .i64 0), (.int .i64 0), (.str { data := #[] })] h fun v2 h => n1 k G v0 v2 h
theorem n0_eq (G : KT1 R) (σ : GS) (h : Heap) : KC k 41 c0 σ h (fun x σ h => G x (σ 2) h) = n0 k G (σ 0) h := (kseq (a := c15) (b := c1) rfl (fun σ h => n1_eq k G σ h)).trans (by kernel_rfl)
def run {R : Type} (k : Nat) (a0 : GV) (h : Heap) (fin : GV → Heap → Option R) : Option R := n0 k (fun x v2 h => kend x ((kloadA 4 h v2).bind fun w2 => fin w2 h)) a0 h
theorem run_eq {R : Type} (k : Nat) (a0 : GV) (h : Heap) (fin : GV → Heap → Option R) : kfun PP cfg NN HH k fn.spec_l18DrawEntry [a0] h fin = run k a0 h fin := (kfun_eq (nt := 41) (c := c0) (show PP.funcs[fn.spec_l18DrawEntry]? = some Tryd.f154 by kernel_rfl) (by kernel_rfl) (by kernel_rfl) (fun x σ h => by cases x <;> kernel_rfl)).trans (n0_eq k (fun x v2 h => kend x ((kloadA 4 h v2).bind fun w2 => fin w2 h)) _ h)
theorem gives {k : Nat} {a0 : GV} {h : Heap} {r : GV × Heap} (e : run k a0 h finH = some r) : HH fn.spec_l18DrawEntry [a0] h = some r := kω_of ((run_eq k a0 h finH).trans e)
end S.spec_l18DrawEntry
/-! spec_l6DrawText -/
namespace S.spec_l6DrawText
noncomputable def c0 : Code := bodyOf Tryd.f194
noncomputable def c1 : Code := cR c0
noncomputable def c2 : Code := cR c1
noncomputable def c3 : Code := cR c2
@[simp] def n3 {R : Type} (k : Nat) (G : KT1 R) (v3 : GV) (h : Heap) : Option R := G .ret v3 h
theorem n3_eq (G : KT1 R) (σ : GS) (h : Heap) : KC k 19 c3 σ h (fun x σ h => G x (σ 2) h) = n3 k G (σ 3) h := by kernel_rfl
noncomputable def c4 : Code := cL c2
noncomputable def c5 : Code := cR c4
noncomputable def c6 : Code := cL c5
noncomputable def c7 : Code := cL c6
noncomputable def c8 : Code := cR c7
noncomputable def c9 : Code := cR c8
@[simp] def n9 {R : Type} (k : Nat) (G : KT4 R) (v0 v2 v3 v4 : GV) (h : Heap) : Option R := (kbin .sub v4 (.int .i64 1)).bind fun v10 => G .nrm v0 v2 v3 v10 h
theorem n9_eq (G : KT4 R) (σ : GS) (h : Heap) : KC k 19 c9 σ h (fun x σ h => G x (σ 0) (σ 2) (σ 3) (σ 4) h) = n9 k G (σ 0) (σ 2) (σ 3) (σ 4) h := by kernel_rfl
noncomputable def c10 : Code := cL c8
noncomputable def c11 : Code := cL c10
@[simp] def n11 {R : Type} (k : Nat) (G : KT4 R) (v0 v2 v3 v4 : GV) (h : Heap) : Option R := (gfill (fun i => some (i * 1, 1)) (zeros [(.str { data := #[] })] 45) [(0, (.str { data := #[97, 98] })), (1, (.str { data := #[120] })), (2, (.str { data := #[195, 169] })), (3, (.str { data := #[228, 184, 128] })), (4, (.str { data := #[13, 10] })), (5, (.str { data := #[10] })), (6, (.str { data := #[9] })), (7, (.str { data := #[8] })), (8, (.str { data := #[27, 91, 50, 59, 51, 72] })), (9, (.str { data := #[27, 91, 65] })), (10, (.str { data := #[27, 91, 51, 66] })), (11, (.str { data := #[27, 91, 50, 67] })), (12, (.str { data := #[27, 91, 68] })), (13, (.str { data := #[27, 91, 74] })), (14, (.str { data := #[27, 91, 49, 75] })), (15, (.str { data := #[27, 91, 50, 74] })), (16, (.str { data := #[27, 91, 75] })), (17, (.str { data := #[27, 91, 76] })), (18, (.str { data := #[27, 91, 50, 77] })), (19, (.str { data := #[27, 91, 64] })), (20, (.str { data := #[27, 91, 50, 80] })), (21, (.str { data := #[27, 91, 51, 88] })), (22, (.str { data := #[27, 91, 83] })), (23, (.str { data := #[27, 91, 84] })), (24, (.str { data := #[27, 91, 49, 59, 51, 49, 109] })), (25, (.str { data := #[27, 91, 48, 109] })), (26, (.str { data := #[27, 91, 52, 52, 59, 55, 109] })), (27, (.str { data := #[27, 91, 50, 59, 51, 114] })), (28, (.str { data := #[27, 91, 114] })), (29, (.str { data := #[27, 91, 63, 55, 108] })), (30, (.str { data := #[27, 91, 63, 55, 104] })), (31, (.str { data := #[27, 91, 63, 50, 53, 108] })), (32, (.str { data := #[27, 91, 63, 49, 48, 52, 57, 104] })), (33, (.str { data := #[27, 91, 63, 49, 48, 52, 57, 108] })), (34, (.str { data := #[27, 68] })), (35, (.str { data := #[27, 77] })), (36, (.str { data := #[27, 69] })), (37, (.str { data := #[27, 55] })), (38, (.str { data := #[27, 56] })), (39, (.str { data := #[27, 99] })), (40, (.str { data := #[27, 93, 48, 59, 104, 105, 7] })), (41, (.str { data := #[27, 93, 116, 27, 92] })), (42, (.str { data := #[27, 91, 53, 71] })), (43, (.str { data := #[27, 91, 50, 100] })), (44, (.str { data := #[104, 101, 108, 108, 111, 32, 119, 111, 114, 108, 100] }))]).bind fun c => kbs 45 1 c h fun v12 h => (HH fn.spec_l1Below [v0, (.int .i64 45)] h).bind fun r => kr r fun v14 h => (kia 1 v12 v14).bind fun v15 => (kload1 h v15).bind fun v16 => (kbin .add v3 v16).bind fun v17 => G .nrm v0 v2 v17 v4 h
theorem n11_eq (G : KT4 R) (σ : GS) (h : Heap) : KC k 19 c11 σ h (fun x σ h => G x (σ 0) (σ 2) (σ 3) (σ 4) h) = n11 k G (σ 0) (σ 2) (σ 3) (σ 4) h := by kernel_rfl
@[simp] def n10 (G : KT4 R) (v0 v2 v3 v4 : GV) (h : Heap) : Option R := n11 k (fun x v0 v2 v3 v4 h => kb 1 x fun x => G x v0 v2 v3 v4 h) v0 v2 v3 v4 h
theorem n10_eq (G : KT4 R) (σ : GS) (h : Heap) : KC k 19 c10 σ h (fun x σ h => G x (σ 0) (σ 2) (σ 3) (σ 4) h) = n10 k G (σ 0) (σ 2) (σ 3) (σ 4) h := (kblock_eq (a := c11) rfl).trans (n11_eq k (fun x v0 v2 v3 v4 h => kb 1 x fun x => G x v0 v2 v3 v4 h) σ h)
@[simp] def n8 (G : KT4 R) (v0 v2 v3 v4 : GV) (h : Heap) : Option R := n10 k (fun x v0 v2 v3 v4 h => kx x (n9 k G v0 v2 v3 v4 h) (G x v0 v2 v3 v4 h)) v0 v2 v3 v4 h
theorem n8_eq (G : KT4 R) (σ : GS) (h : Heap) : KC k 19 c8 σ h (fun x σ h => G x (σ 0) (σ 2) (σ 3) (σ 4) h) = n8 k G (σ 0) (σ 2) (σ 3) (σ 4) h := (kseq (b := c9) rfl (fun σ h => n9_eq k G σ h)).trans (n10_eq k (fun x v0 v2 v3 v4 h => kx x (n9 k G v0 v2 v3 v4 h) (G x v0 v2 v3 v4 h)) σ h)
noncomputable def c12 : Code := cL c7
@[simp] def n7 (G : KT4 R) (v0 v2 v3 v4 : GV) (h : Heap) : Option R := (kbin .gtr v4 (.int .i64 0)).bind fun v8 => kcond v8 (n8 k G v0 v2 v3 v4 h) (G (.ext 0) v0 v2 v3 v4 h)
theorem n7_eq (G : KT4 R) (σ : GS) (h : Heap) : KC k 19 c7 σ h (fun x σ h => G x (σ 0) (σ 2) (σ 3) (σ 4) h) = n7 k G (σ 0) (σ 2) (σ 3) (σ 4) h := (kseq (a := c12) (b := c8) rfl (fun σ h => n8_eq k G σ h)).trans (by kernel_rfl)
def l6 {R : Type} (k : Nat) (G : KT2 R) : Nat → GV → GV → GV → GV → Heap → Option R
  | 0, _, _, _, _, _ => none
  | r + 1, v0, v2, v3, v4, h => n7 k (fun x v0 v2 v3 v4 h => kx x (l6 k G r v0 v2 v3 v4 h) (G x v2 v3 h)) v0 v2 v3 v4 h
theorem l6_eq {R : Type} (k : Nat) (G : KT2 R) : ∀ (r : Nat) (σ : GS) (h : Heap), kloop (fun σ h K => KC k 19 c7 σ h K) r σ h (fun x σ h => G x (σ 2) (σ 3) h) = l6 k G r (σ 0) (σ 2) (σ 3) (σ 4) h
  | 0, _, _ => rfl
  | r + 1, σ, h => (kloop_eq (fun σ h => l6_eq k G r σ h)).trans (n7_eq k (fun x v0 v2 v3 v4 h => kx x (l6 k G r v0 v2 v3 v4 h) (G x v2 v3 h)) σ h)
@[simp] def n6 (G : KT2 R) (v0 v2 v3 v4 : GV) (h : Heap) : Option R := l6 k G k v0 v2 v3 v4 h
theorem n6_eq (G : KT2 R) (σ : GS) (h : Heap) : KC k 19 c6 σ h (fun x σ h => G x (σ 2) (σ 3) h) = n6 k G (σ 0) (σ 2) (σ 3) (σ 4) h := (kloopc_eq (a := c7) rfl).trans (l6_eq k G k σ h)
@[simp] def n5 (G : KT2 R) (v0 v2 v3 v4 : GV) (h : Heap) : Option R := n6 k (fun x v2 v3 h => kb 0 x fun x => G x v2 v3 h) v0 v2 v3 v4 h
theorem n5_eq (G : KT2 R) (σ : GS) (h : Heap) : KC k 19 c5 σ h (fun x σ h => G x (σ 2) (σ 3) h) = n5 k G (σ 0) (σ 2) (σ 3) (σ 4) h := (kblock_eq (a := c6) rfl).trans (n6_eq k (fun x v2 v3 h => kb 0 x fun x => G x v2 v3 h) σ h)
noncomputable def c13 : Code := cL c4
@[simp] def n4 (G : KT2 R) (v0 v2 v3 : GV) (h : Heap) : Option R := (HH fn.spec_l1Below [v0, (.int .i64 9)] h).bind fun r => kr r fun v6 h => n5 k G v0 v2 v3 v6 h
theorem n4_eq (G : KT2 R) (σ : GS) (h : Heap) : KC k 19 c4 σ h (fun x σ h => G x (σ 2) (σ 3) h) = n4 k G (σ 0) (σ 2) (σ 3) h := (kseq (a := c13) (b := c5) rfl (fun σ h => n5_eq k G σ h)).trans (by kernel_rfl)
@[simp] def n2 (G : KT1 R) (v0 v2 v3 : GV) (h : Heap) : Option R := n4 k (fun x v2 v3 h => kx x (n3 k G v3 h) (G x v2 h)) v0 v2 v3 h
theorem n2_eq (G : KT1 R) (σ : GS) (h : Heap) : KC k 19 c2 σ h (fun x σ h => G x (σ 2) h) = n2 k G (σ 0) (σ 2) (σ 3) h := (kseq (b := c3) rfl (fun σ h => n3_eq k G σ h)).trans (n4_eq k (fun x v2 v3 h => kx x (n3 k G v3 h) (G x v2 h)) σ h)
noncomputable def c14 : Code := cL c1
@[simp] def n1 (G : KT1 R) (v0 v2 : GV) (h : Heap) : Option R := n2 k G v0 v2 (.str { data := #[] }) h
theorem n1_eq (G : KT1 R) (σ : GS) (h : Heap) : KC k 19 c1 σ h (fun x σ h => G x (σ 2) h) = n1 k G (σ 0) (σ 2) h := (kseq (a := c14) (b := c2) rfl (fun σ h => n2_eq k G σ h)).trans (by kernel_rfl)
noncomputable def c15 : Code := cL c0
@[simp] def n0 (G : KT1 R) (v0 : GV) (h : Heap) : Option R := n1 k G v0 (.str { data := #[] }) h
theorem n0_eq (G : KT1 R) (σ : GS) (h : Heap) : KC k 19 c0 σ h (fun x σ h => G x (σ 2) h) = n0 k G (σ 0) h := (kseq (a := c15) (b := c1) rfl (fun σ h => n1_eq k G σ h)).trans (by kernel_rfl)
def run {R : Type} (k : Nat) (a0 : GV) (h : Heap) (fin : GV → Heap → Option R) : Option R := n0 k (fun x v2 h => kend x (fin v2 h)) a0 h
theorem run_eq {R : Type} (k : Nat) (a0 : GV) (h : Heap) (fin : GV → Heap → Option R) : kfun PP cfg NN HH k fn.spec_l6DrawText [a0] h fin = run k a0 h fin := (kfun_eq (nt := 19) (c := c0) (show PP.funcs[fn.spec_l6DrawText]? = some Tryd.f194 by kernel_rfl) (by kernel_rfl) (by kernel_rfl) (fun x σ h => by cases x <;> kernel_rfl)).trans (n0_eq k (fun x v2 h => kend x (fin v2 h)) _ h)
theorem gives {k : Nat} {a0 : GV} {h : Heap} {r : GV × Heap} (e : run k a0 h finH = some r) : HH fn.spec_l6DrawText [a0] h = some r := kω_of ((run_eq k a0 h finH).trans e)
end S.spec_l6DrawText
/-! spec_l1From -/
namespace S.spec_l1From
noncomputable def c0 : Code := bodyOf Tryd.f155
@[simp] def n0 {R : Type} (k : Nat) (G : KT1 R) (v0 v1 v2 : GV) (h : Heap) : Option R := (kbin .sub v2 v1).bind fun v11 => (kbin .add v11 (.int .i64 1)).bind fun v12 => (HH fn.spec_l1Below [v0, v12] h).bind fun r => kr r fun v13 h => (kbin .add v1 v13).bind fun v14 => G .ret v14 h
theorem n0_eq (G : KT1 R) (σ : GS) (h : Heap) : KC k 15 c0 σ h (fun x σ h => G x (σ 6) h) = n0 k G (σ 0) (σ 1) (σ 2) h := by kernel_rfl
def run {R : Type} (k : Nat) (a0 : GV) (a1 : GV) (a2 : GV) (h : Heap) (fin : GV → Heap → Option R) : Option R := n0 k (fun x v6 h => kend x (fin v6 h)) a0 a1 a2 h
theorem run_eq {R : Type} (k : Nat) (a0 : GV) (a1 : GV) (a2 : GV) (h : Heap) (fin : GV → Heap → Option R) : kfun PP cfg NN HH k fn.spec_l1From [a0, a1, a2] h fin = run k a0 a1 a2 h fin := (kfun_eq (nt := 15) (c := c0) (show PP.funcs[fn.spec_l1From]? = some Tryd.f155 by kernel_rfl) (by kernel_rfl) (by kernel_rfl) (fun x σ h => by cases x <;> kernel_rfl)).trans (n0_eq k (fun x v6 h => kend x (fin v6 h)) _ h)
theorem gives {k : Nat} {a0 : GV} {a1 : GV} {a2 : GV} {h : Heap} {r : GV × Heap} (e : run k a0 a1 a2 h finH = some r) : HH fn.spec_l1From [a0, a1, a2] h = some r := kω_of ((run_eq k a0 a1 a2 h finH).trans e)
end S.spec_l1From
end
end Go.Proofs.YtklhdbkaejbajaaDoor.G
