/- What these functions do, told for open values, out of the machine with continuations. Printed by a program of this session. -/
import Derived.Test.YtleeifecdjolhaaSA
import Derived.KernelRfl
namespace Go.Proofs.Ytleeifecdjolhaa.G
open Go.RowKit
set_option linter.unusedVariables false
set_option maxRecDepth 100000
noncomputable section
/-! laws_FnExactNewTerm -/
namespace S.laws_FnExactNewTerm
noncomputable def c0 : Code := bodyOf Try.f11
noncomputable def c1 : Code := cR c0
noncomputable def c2 : Code := cR c1
noncomputable def c3 : Code := cR c2
noncomputable def c4 : Code := cR c3
noncomputable def c5 : Code := cR c4
noncomputable def c6 : Code := cR c5
noncomputable def c7 : Code := cR c6
noncomputable def c8 : Code := cR c7
noncomputable def c9 : Code := cR c8
noncomputable def c10 : Code := cR c9
noncomputable def c11 : Code := cR c10
noncomputable def c12 : Code := cR c11
@[simp] def n12 {R : Type} (k : Nat) (G : KT1 R) (v4 v7 v9 : GV) (h : Heap) : Option R := (kloadA 30 h v7).bind fun v60 => (kN NN fn.laws_heldTerm [v60, (.int .i64 1)] h).bind fun v62 => (kbin .lss v62 (.int .i64 0)).bind fun v64 => kcond v64 (G .ret (.bool false) h) ((kbin .neq v62 v9).bind fun v67 => kcond v67 (G .ret (.bool false) h) (G .ret (.bool true) h))
theorem n12_eq {R : Type} (k : Nat) (G : KT1 R) (σ : GS) (h : Heap) : KC k 68 c12 σ h (fun x σ h => G x (σ 4) h) = n12 k G (σ 4) (σ 7) (σ 9) h := by kernel_rfl
noncomputable def c13 : Code := cL c11
noncomputable def c14 : Code := cR c13
@[simp] def n14 {R : Type} (k : Nat) (G : KT3 R) (v4 v7 v9 v59 : GV) (h : Heap) : Option R := kcond v59 (G .ret (.bool false) v7 v9 h) (G .nrm v4 v7 v9 h)
theorem n14_eq {R : Type} (k : Nat) (G : KT3 R) (σ : GS) (h : Heap) : KC k 68 c14 σ h (fun x σ h => G x (σ 4) (σ 7) (σ 9) h) = n14 k G (σ 4) (σ 7) (σ 9) (σ 59) h := by kernel_rfl
noncomputable def c15 : Code := cL c13
noncomputable def o15 : Array Oper := cO c15
@[simp] def g15_2 {R : Type} (k : Nat) (G : KT4 R) (v4 v7 v9 v55 v58 : GV) (h : Heap) : Option R := (kpick v55 (.bool true) v58).bind fun v59 => G .nrm v4 v7 v9 v59 h
theorem g15_2_eq {R : Type} (k : Nat) (G : KT4 R) (σ : GS) (h : Heap) : kgroups PP cfg NN HH 68 o15 [(none, [8])] σ h (fun σ h => G .nrm (σ 4) (σ 7) (σ 9) (σ 59) h) = g15_2 k G (σ 4) (σ 7) (σ 9) (σ 55) (σ 58) h := by kernel_rfl
@[simp] def g15_1 {R : Type} (k : Nat) (G : KT4 R) (v4 v6 v7 v9 v12 v55 : GV) (h : Heap) : Option R := bif tr false v55 then (keqB .neq v12 v6).bind fun v58 => g15_2 k G v4 v7 v9 v55 v58 h else g15_2 k G v4 v7 v9 v55 .un h
theorem g15_1_eq0 {R : Type} (k : Nat) (G : KT4 R) (σ : GS) (h : Heap) : kgroup1 PP cfg NN HH 68 o15 (some (4, false), [5, 6, 7]) σ h (fun σ h => g15_2 k G (σ 4) (σ 7) (σ 9) (σ 55) (σ 58) h) = g15_1 k G (σ 4) (σ 6) (σ 7) (σ 9) (σ 12) (σ 55) h := by kernel_rfl
theorem g15_1_eq {R : Type} (k : Nat) (G : KT4 R) (σ : GS) (h : Heap) : kgroups PP cfg NN HH 68 o15 [(some (4, false), [5, 6, 7]), (none, [8])] σ h (fun σ h => G .nrm (σ 4) (σ 7) (σ 9) (σ 59) h) = g15_1 k G (σ 4) (σ 6) (σ 7) (σ 9) (σ 12) (σ 55) h := (kgroups_cons (fun σ h => g15_2_eq k G σ h)).trans (g15_1_eq0 k G σ h)
@[simp] def g15_0 {R : Type} (k : Nat) (G : KT4 R) (v4 v5 v6 v7 v9 v11 v12 : GV) (h : Heap) : Option R := (kloadA 30 h v11).bind fun v51 => (kloadA 30 h v5).bind fun v52 => (kN NN fn.laws_eqTerm [v51, v52] h).bind fun v53 => (kun .not v53).bind fun v54 => g15_1 k G v4 v6 v7 v9 v12 v54 h
theorem g15_0_eq0 {R : Type} (k : Nat) (G : KT4 R) (σ : GS) (h : Heap) : kgroup1 PP cfg NN HH 68 o15 (none, [0, 1, 2, 3, 4]) σ h (fun σ h => g15_1 k G (σ 4) (σ 6) (σ 7) (σ 9) (σ 12) (σ 55) h) = g15_0 k G (σ 4) (σ 5) (σ 6) (σ 7) (σ 9) (σ 11) (σ 12) h := by kernel_rfl
theorem g15_0_eq {R : Type} (k : Nat) (G : KT4 R) (σ : GS) (h : Heap) : kgroups PP cfg NN HH 68 o15 [(none, [0, 1, 2, 3, 4]), (some (4, false), [5, 6, 7]), (none, [8])] σ h (fun σ h => G .nrm (σ 4) (σ 7) (σ 9) (σ 59) h) = g15_0 k G (σ 4) (σ 5) (σ 6) (σ 7) (σ 9) (σ 11) (σ 12) h := (kgroups_cons (fun σ h => g15_1_eq k G σ h)).trans (g15_0_eq0 k G σ h)
@[simp] def n15 {R : Type} (k : Nat) (G : KT4 R) (v4 v5 v6 v7 v9 v11 v12 : GV) (h : Heap) : Option R := g15_0 k G v4 v5 v6 v7 v9 v11 v12 h
theorem n15_eq {R : Type} (k : Nat) (G : KT4 R) (σ : GS) (h : Heap) : KC k 68 c15 σ h (fun x σ h => G x (σ 4) (σ 7) (σ 9) (σ 59) h) = n15 k G (σ 4) (σ 5) (σ 6) (σ 7) (σ 9) (σ 11) (σ 12) h := (kregion_eq (id := 14) (draw := false) (ops := o15) (gs := [(none, [0, 1, 2, 3, 4]), (some (4, false), [5, 6, 7]), (none, [8])]) (by kernel_rfl) (by kernel_rfl) (by kernel_rfl)).trans (g15_0_eq k G σ h)
@[simp] def n13 {R : Type} (k : Nat) (G : KT3 R) (v4 v5 v6 v7 v9 v11 v12 : GV) (h : Heap) : Option R := n15 k (fun x v4 v7 v9 v59 h => kx x (n14 k G v4 v7 v9 v59 h) (G x v4 v7 v9 h)) v4 v5 v6 v7 v9 v11 v12 h
theorem n13_eq {R : Type} (k : Nat) (G : KT3 R) (σ : GS) (h : Heap) : KC k 68 c13 σ h (fun x σ h => G x (σ 4) (σ 7) (σ 9) h) = n13 k G (σ 4) (σ 5) (σ 6) (σ 7) (σ 9) (σ 11) (σ 12) h := (kseq (b := c14) rfl (fun σ h => n14_eq k G σ h)).trans (n15_eq k (fun x v4 v7 v9 v59 h => kx x (n14 k G v4 v7 v9 v59 h) (G x v4 v7 v9 h)) σ h)
@[simp] def n11 {R : Type} (k : Nat) (G : KT1 R) (v4 v5 v6 v7 v9 v11 v12 : GV) (h : Heap) : Option R := n13 k (fun x v4 v7 v9 h => kx x (n12 k G v4 v7 v9 h) (G x v4 h)) v4 v5 v6 v7 v9 v11 v12 h
theorem n11_eq {R : Type} (k : Nat) (G : KT1 R) (σ : GS) (h : Heap) : KC k 68 c11 σ h (fun x σ h => G x (σ 4) h) = n11 k G (σ 4) (σ 5) (σ 6) (σ 7) (σ 9) (σ 11) (σ 12) h := (kseq (b := c12) rfl (fun σ h => n12_eq k G σ h)).trans (n13_eq k (fun x v4 v7 v9 h => kx x (n12 k G v4 v7 v9 h) (G x v4 h)) σ h)
noncomputable def c16 : Code := cL c10
@[simp] def n10 {R : Type} (k : Nat) (G : KT1 R) (v0 v1 v4 v5 v6 v7 v9 : GV) (h : Heap) : Option R := (kF false HH fn.impl_NewTerm [v0, v1] h).bind fun r => kr r fun v48 h => (kxt 0 v48).bind fun v49 => (kxt 1 v48).bind fun v50 => kalloc [(.int .i64 0), .nils, (.int .i64 0), .nils, (.int .i64 0), (.int .i64 0), (.int .i64 0), (.int .i64 0), (.bool false), (.bool false), (.bool false), (.int .i64 0), (.int .i64 0), (.bool false), (.bool false), (.bool false), (.bool false), (.int .i64 0), (.int .i64 0), (.int .i64 0), (.int .i64 0), (.bool false), (.bool false), (.bool false), .nils, (.int .i64 0), .nils, (.int .i64 0), .nils, (.str { data := #[] })] h fun v11 h => (kstore 30 h v11 v49).bind fun h => n11 k G v4 v5 v6 v7 v9 v11 v50 h
theorem n10_eq0 {R : Type} (k : Nat) (G : KT1 R) (σ : GS) (h : Heap) : KC k 68 c16 σ h (fun x σ h => kx x (n11 k G (σ 4) (σ 5) (σ 6) (σ 7) (σ 9) (σ 11) (σ 12) h) (G x (σ 4) h)) = n10 k G (σ 0) (σ 1) (σ 4) (σ 5) (σ 6) (σ 7) (σ 9) h := by kernel_rfl
theorem n10_eq {R : Type} (k : Nat) (G : KT1 R) (σ : GS) (h : Heap) : KC k 68 c10 σ h (fun x σ h => G x (σ 4) h) = n10 k G (σ 0) (σ 1) (σ 4) (σ 5) (σ 6) (σ 7) (σ 9) h := (kseq (b := c11) rfl (fun σ h => n11_eq k G σ h)).trans (n10_eq0 k G σ h)
noncomputable def c17 : Code := cL c9
@[simp] def n9 {R : Type} (k : Nat) (G : KT1 R) (v0 v1 v4 v5 v6 v7 v9 v10 : GV) (h : Heap) : Option R := (kbin .neq v10 v9).bind fun v44 => kcond v44 (G .ret (.bool false) h) (n10 k G v0 v1 v4 v5 v6 v7 v9 h)
theorem n9_eq0 {R : Type} (k : Nat) (G : KT1 R) (σ : GS) (h : Heap) : KC k 68 c17 σ h (fun x σ h => kx x (n10 k G (σ 0) (σ 1) (σ 4) (σ 5) (σ 6) (σ 7) (σ 9) h) (G x (σ 4) h)) = n9 k G (σ 0) (σ 1) (σ 4) (σ 5) (σ 6) (σ 7) (σ 9) (σ 10) h := by kernel_rfl
theorem n9_eq {R : Type} (k : Nat) (G : KT1 R) (σ : GS) (h : Heap) : KC k 68 c9 σ h (fun x σ h => G x (σ 4) h) = n9 k G (σ 0) (σ 1) (σ 4) (σ 5) (σ 6) (σ 7) (σ 9) (σ 10) h := (kseq (b := c10) rfl (fun σ h => n10_eq k G σ h)).trans (n9_eq0 k G σ h)
noncomputable def c18 : Code := cL c8
@[simp] def n8 {R : Type} (k : Nat) (G : KT1 R) (v0 v1 v4 v5 v6 v7 v9 v10 : GV) (h : Heap) : Option R := (kbin .lss v10 (.int .i64 0)).bind fun v41 => kcond v41 (G .ret (.bool false) h) (n9 k G v0 v1 v4 v5 v6 v7 v9 v10 h)
theorem n8_eq0 {R : Type} (k : Nat) (G : KT1 R) (σ : GS) (h : Heap) : KC k 68 c18 σ h (fun x σ h => kx x (n9 k G (σ 0) (σ 1) (σ 4) (σ 5) (σ 6) (σ 7) (σ 9) (σ 10) h) (G x (σ 4) h)) = n8 k G (σ 0) (σ 1) (σ 4) (σ 5) (σ 6) (σ 7) (σ 9) (σ 10) h := by kernel_rfl
theorem n8_eq {R : Type} (k : Nat) (G : KT1 R) (σ : GS) (h : Heap) : KC k 68 c8 σ h (fun x σ h => G x (σ 4) h) = n8 k G (σ 0) (σ 1) (σ 4) (σ 5) (σ 6) (σ 7) (σ 9) (σ 10) h := (kseq (b := c9) rfl (fun σ h => n9_eq k G σ h)).trans (n8_eq0 k G σ h)
noncomputable def c19 : Code := cL c7
@[simp] def n7 {R : Type} (k : Nat) (G : KT1 R) (v0 v1 v4 v5 v6 v7 v9 v10 : GV) (h : Heap) : Option R := (kloadA 30 h v7).bind fun v37 => (kN NN fn.laws_heldTerm [v37, v10] h).bind fun v39 => n8 k G v0 v1 v4 v5 v6 v7 v9 v39 h
theorem n7_eq0 {R : Type} (k : Nat) (G : KT1 R) (σ : GS) (h : Heap) : KC k 68 c19 σ h (fun x σ h => kx x (n8 k G (σ 0) (σ 1) (σ 4) (σ 5) (σ 6) (σ 7) (σ 9) (σ 10) h) (G x (σ 4) h)) = n7 k G (σ 0) (σ 1) (σ 4) (σ 5) (σ 6) (σ 7) (σ 9) (σ 10) h := by kernel_rfl
theorem n7_eq {R : Type} (k : Nat) (G : KT1 R) (σ : GS) (h : Heap) : KC k 68 c7 σ h (fun x σ h => G x (σ 4) h) = n7 k G (σ 0) (σ 1) (σ 4) (σ 5) (σ 6) (σ 7) (σ 9) (σ 10) h := (kseq (b := c8) rfl (fun σ h => n8_eq k G σ h)).trans (n7_eq0 k G σ h)
noncomputable def c20 : Code := cL c6
@[simp] def n6 {R : Type} (k : Nat) (G : KT1 R) (v0 v1 v4 v5 v6 v7 v9 : GV) (h : Heap) : Option R := n7 k G v0 v1 v4 v5 v6 v7 v9 (.int .i64 1) h
theorem n6_eq0 {R : Type} (k : Nat) (G : KT1 R) (σ : GS) (h : Heap) : KC k 68 c20 σ h (fun x σ h => kx x (n7 k G (σ 0) (σ 1) (σ 4) (σ 5) (σ 6) (σ 7) (σ 9) (σ 10) h) (G x (σ 4) h)) = n6 k G (σ 0) (σ 1) (σ 4) (σ 5) (σ 6) (σ 7) (σ 9) h := by kernel_rfl
theorem n6_eq {R : Type} (k : Nat) (G : KT1 R) (σ : GS) (h : Heap) : KC k 68 c6 σ h (fun x σ h => G x (σ 4) h) = n6 k G (σ 0) (σ 1) (σ 4) (σ 5) (σ 6) (σ 7) (σ 9) h := (kseq (b := c7) rfl (fun σ h => n7_eq k G σ h)).trans (n6_eq0 k G σ h)
noncomputable def c21 : Code := cL c5
@[simp] def n5 {R : Type} (k : Nat) (G : KT1 R) (v0 v1 v4 v5 v6 v7 v9 : GV) (h : Heap) : Option R := (kloadA 30 h v7).bind fun v34 => (HH fn.laws_markTerm [v34, v9] h).bind fun r => kr r fun v36 h => n6 k G v0 v1 v4 v5 v6 v7 v36 h
theorem n5_eq0 {R : Type} (k : Nat) (G : KT1 R) (σ : GS) (h : Heap) : KC k 68 c21 σ h (fun x σ h => kx x (n6 k G (σ 0) (σ 1) (σ 4) (σ 5) (σ 6) (σ 7) (σ 9) h) (G x (σ 4) h)) = n5 k G (σ 0) (σ 1) (σ 4) (σ 5) (σ 6) (σ 7) (σ 9) h := by kernel_rfl
theorem n5_eq {R : Type} (k : Nat) (G : KT1 R) (σ : GS) (h : Heap) : KC k 68 c5 σ h (fun x σ h => G x (σ 4) h) = n5 k G (σ 0) (σ 1) (σ 4) (σ 5) (σ 6) (σ 7) (σ 9) h := (kseq (b := c6) rfl (fun σ h => n6_eq k G σ h)).trans (n5_eq0 k G σ h)
noncomputable def c22 : Code := cL c4
@[simp] def n4 {R : Type} (k : Nat) (G : KT1 R) (v0 v1 v4 v5 v6 v7 : GV) (h : Heap) : Option R := n5 k G v0 v1 v4 v5 v6 v7 (.int .i64 1) h
theorem n4_eq0 {R : Type} (k : Nat) (G : KT1 R) (σ : GS) (h : Heap) : KC k 68 c22 σ h (fun x σ h => kx x (n5 k G (σ 0) (σ 1) (σ 4) (σ 5) (σ 6) (σ 7) (σ 9) h) (G x (σ 4) h)) = n4 k G (σ 0) (σ 1) (σ 4) (σ 5) (σ 6) (σ 7) h := by kernel_rfl
theorem n4_eq {R : Type} (k : Nat) (G : KT1 R) (σ : GS) (h : Heap) : KC k 68 c4 σ h (fun x σ h => G x (σ 4) h) = n4 k G (σ 0) (σ 1) (σ 4) (σ 5) (σ 6) (σ 7) h := (kseq (b := c5) rfl (fun σ h => n5_eq k G σ h)).trans (n4_eq0 k G σ h)
noncomputable def c23 : Code := cL c3
noncomputable def c24 : Code := cR c23
@[simp] def n24 {R : Type} (k : Nat) (G : KT6 R) (v0 v1 v4 v5 v6 v7 v33 : GV) (h : Heap) : Option R := kcond v33 (G .ret v0 v1 (.bool false) v5 v6 v7 h) (G .nrm v0 v1 v4 v5 v6 v7 h)
theorem n24_eq {R : Type} (k : Nat) (G : KT6 R) (σ : GS) (h : Heap) : KC k 68 c24 σ h (fun x σ h => G x (σ 0) (σ 1) (σ 4) (σ 5) (σ 6) (σ 7) h) = n24 k G (σ 0) (σ 1) (σ 4) (σ 5) (σ 6) (σ 7) (σ 33) h := by kernel_rfl
noncomputable def c25 : Code := cL c23
noncomputable def o25 : Array Oper := cO c25
@[simp] def g25_2 {R : Type} (k : Nat) (G : KT7 R) (v0 v1 v4 v5 v6 v7 v29 v32 : GV) (h : Heap) : Option R := (kpick v29 (.bool true) v32).bind fun v33 => G .nrm v0 v1 v4 v5 v6 v7 v33 h
theorem g25_2_eq {R : Type} (k : Nat) (G : KT7 R) (σ : GS) (h : Heap) : kgroups PP cfg NN HH 68 o25 [(none, [8])] σ h (fun σ h => G .nrm (σ 0) (σ 1) (σ 4) (σ 5) (σ 6) (σ 7) (σ 33) h) = g25_2 k G (σ 0) (σ 1) (σ 4) (σ 5) (σ 6) (σ 7) (σ 29) (σ 32) h := by kernel_rfl
@[simp] def g25_1 {R : Type} (k : Nat) (G : KT7 R) (v0 v1 v4 v5 v6 v7 v8 v29 : GV) (h : Heap) : Option R := bif tr false v29 then (keqB .neq v8 v6).bind fun v32 => g25_2 k G v0 v1 v4 v5 v6 v7 v29 v32 h else g25_2 k G v0 v1 v4 v5 v6 v7 v29 .un h
theorem g25_1_eq0 {R : Type} (k : Nat) (G : KT7 R) (σ : GS) (h : Heap) : kgroup1 PP cfg NN HH 68 o25 (some (4, false), [5, 6, 7]) σ h (fun σ h => g25_2 k G (σ 0) (σ 1) (σ 4) (σ 5) (σ 6) (σ 7) (σ 29) (σ 32) h) = g25_1 k G (σ 0) (σ 1) (σ 4) (σ 5) (σ 6) (σ 7) (σ 8) (σ 29) h := by kernel_rfl
theorem g25_1_eq {R : Type} (k : Nat) (G : KT7 R) (σ : GS) (h : Heap) : kgroups PP cfg NN HH 68 o25 [(some (4, false), [5, 6, 7]), (none, [8])] σ h (fun σ h => G .nrm (σ 0) (σ 1) (σ 4) (σ 5) (σ 6) (σ 7) (σ 33) h) = g25_1 k G (σ 0) (σ 1) (σ 4) (σ 5) (σ 6) (σ 7) (σ 8) (σ 29) h := (kgroups_cons (fun σ h => g25_2_eq k G σ h)).trans (g25_1_eq0 k G σ h)
@[simp] def g25_0 {R : Type} (k : Nat) (G : KT7 R) (v0 v1 v4 v5 v6 v7 v8 : GV) (h : Heap) : Option R := (kloadA 30 h v7).bind fun v25 => (kloadA 30 h v5).bind fun v26 => (kN NN fn.laws_eqTerm [v25, v26] h).bind fun v27 => (kun .not v27).bind fun v28 => g25_1 k G v0 v1 v4 v5 v6 v7 v8 v28 h
theorem g25_0_eq0 {R : Type} (k : Nat) (G : KT7 R) (σ : GS) (h : Heap) : kgroup1 PP cfg NN HH 68 o25 (none, [0, 1, 2, 3, 4]) σ h (fun σ h => g25_1 k G (σ 0) (σ 1) (σ 4) (σ 5) (σ 6) (σ 7) (σ 8) (σ 29) h) = g25_0 k G (σ 0) (σ 1) (σ 4) (σ 5) (σ 6) (σ 7) (σ 8) h := by kernel_rfl
theorem g25_0_eq {R : Type} (k : Nat) (G : KT7 R) (σ : GS) (h : Heap) : kgroups PP cfg NN HH 68 o25 [(none, [0, 1, 2, 3, 4]), (some (4, false), [5, 6, 7]), (none, [8])] σ h (fun σ h => G .nrm (σ 0) (σ 1) (σ 4) (σ 5) (σ 6) (σ 7) (σ 33) h) = g25_0 k G (σ 0) (σ 1) (σ 4) (σ 5) (σ 6) (σ 7) (σ 8) h := (kgroups_cons (fun σ h => g25_1_eq k G σ h)).trans (g25_0_eq0 k G σ h)
@[simp] def n25 {R : Type} (k : Nat) (G : KT7 R) (v0 v1 v4 v5 v6 v7 v8 : GV) (h : Heap) : Option R := g25_0 k G v0 v1 v4 v5 v6 v7 v8 h
theorem n25_eq {R : Type} (k : Nat) (G : KT7 R) (σ : GS) (h : Heap) : KC k 68 c25 σ h (fun x σ h => G x (σ 0) (σ 1) (σ 4) (σ 5) (σ 6) (σ 7) (σ 33) h) = n25 k G (σ 0) (σ 1) (σ 4) (σ 5) (σ 6) (σ 7) (σ 8) h := (kregion_eq (id := 3) (draw := false) (ops := o25) (gs := [(none, [0, 1, 2, 3, 4]), (some (4, false), [5, 6, 7]), (none, [8])]) (by kernel_rfl) (by kernel_rfl) (by kernel_rfl)).trans (g25_0_eq k G σ h)
@[simp] def n23 {R : Type} (k : Nat) (G : KT6 R) (v0 v1 v4 v5 v6 v7 v8 : GV) (h : Heap) : Option R := n25 k (fun x v0 v1 v4 v5 v6 v7 v33 h => kx x (n24 k G v0 v1 v4 v5 v6 v7 v33 h) (G x v0 v1 v4 v5 v6 v7 h)) v0 v1 v4 v5 v6 v7 v8 h
theorem n23_eq {R : Type} (k : Nat) (G : KT6 R) (σ : GS) (h : Heap) : KC k 68 c23 σ h (fun x σ h => G x (σ 0) (σ 1) (σ 4) (σ 5) (σ 6) (σ 7) h) = n23 k G (σ 0) (σ 1) (σ 4) (σ 5) (σ 6) (σ 7) (σ 8) h := (kseq (b := c24) rfl (fun σ h => n24_eq k G σ h)).trans (n25_eq k (fun x v0 v1 v4 v5 v6 v7 v33 h => kx x (n24 k G v0 v1 v4 v5 v6 v7 v33 h) (G x v0 v1 v4 v5 v6 v7 h)) σ h)
@[simp] def n3 {R : Type} (k : Nat) (G : KT1 R) (v0 v1 v4 v5 v6 v7 v8 : GV) (h : Heap) : Option R := n23 k (fun x v0 v1 v4 v5 v6 v7 h => kx x (n4 k G v0 v1 v4 v5 v6 v7 h) (G x v4 h)) v0 v1 v4 v5 v6 v7 v8 h
theorem n3_eq {R : Type} (k : Nat) (G : KT1 R) (σ : GS) (h : Heap) : KC k 68 c3 σ h (fun x σ h => G x (σ 4) h) = n3 k G (σ 0) (σ 1) (σ 4) (σ 5) (σ 6) (σ 7) (σ 8) h := (kseq (b := c4) rfl (fun σ h => n4_eq k G σ h)).trans (n23_eq k (fun x v0 v1 v4 v5 v6 v7 h => kx x (n4 k G v0 v1 v4 v5 v6 v7 h) (G x v4 h)) σ h)
noncomputable def c26 : Code := cL c2
@[simp] def n2 {R : Type} (k : Nat) (G : KT1 R) (v0 v1 v4 v5 v6 : GV) (h : Heap) : Option R := (kF false HH fn.impl_NewTerm [v0, v1] h).bind fun r => kr r fun v22 h => (kxt 0 v22).bind fun v23 => (kxt 1 v22).bind fun v24 => kalloc [(.int .i64 0), .nils, (.int .i64 0), .nils, (.int .i64 0), (.int .i64 0), (.int .i64 0), (.int .i64 0), (.bool false), (.bool false), (.bool false), (.int .i64 0), (.int .i64 0), (.bool false), (.bool false), (.bool false), (.bool false), (.int .i64 0), (.int .i64 0), (.int .i64 0), (.int .i64 0), (.bool false), (.bool false), (.bool false), .nils, (.int .i64 0), .nils, (.int .i64 0), .nils, (.str { data := #[] })] h fun v7 h => (kstore 30 h v7 v23).bind fun h => n3 k G v0 v1 v4 v5 v6 v7 v24 h
theorem n2_eq0 {R : Type} (k : Nat) (G : KT1 R) (σ : GS) (h : Heap) : KC k 68 c26 σ h (fun x σ h => kx x (n3 k G (σ 0) (σ 1) (σ 4) (σ 5) (σ 6) (σ 7) (σ 8) h) (G x (σ 4) h)) = n2 k G (σ 0) (σ 1) (σ 4) (σ 5) (σ 6) h := by kernel_rfl
theorem n2_eq {R : Type} (k : Nat) (G : KT1 R) (σ : GS) (h : Heap) : KC k 68 c2 σ h (fun x σ h => G x (σ 4) h) = n2 k G (σ 0) (σ 1) (σ 4) (σ 5) (σ 6) h := (kseq (b := c3) rfl (fun σ h => n3_eq k G σ h)).trans (n2_eq0 k G σ h)
noncomputable def c27 : Code := cL c1
@[simp] def n1 {R : Type} (k : Nat) (G : KT1 R) (v0 v1 v4 : GV) (h : Heap) : Option R := (kN NN fn.spec_NewTerm [v0, v1] h).bind fun v16 => (kxt 0 v16).bind fun v17 => (kxt 1 v16).bind fun v18 => kalloc [(.int .i64 0), .nils, (.int .i64 0), .nils, (.int .i64 0), (.int .i64 0), (.int .i64 0), (.int .i64 0), (.bool false), (.bool false), (.bool false), (.int .i64 0), (.int .i64 0), (.bool false), (.bool false), (.bool false), (.bool false), (.int .i64 0), (.int .i64 0), (.int .i64 0), (.int .i64 0), (.bool false), (.bool false), (.bool false), .nils, (.int .i64 0), .nils, (.int .i64 0), .nils, (.str { data := #[] })] h fun v5 h => (kstore 30 h v5 v17).bind fun h => n2 k G v0 v1 v4 v5 v18 h
theorem n1_eq0 {R : Type} (k : Nat) (G : KT1 R) (σ : GS) (h : Heap) : KC k 68 c27 σ h (fun x σ h => kx x (n2 k G (σ 0) (σ 1) (σ 4) (σ 5) (σ 6) h) (G x (σ 4) h)) = n1 k G (σ 0) (σ 1) (σ 4) h := by kernel_rfl
theorem n1_eq {R : Type} (k : Nat) (G : KT1 R) (σ : GS) (h : Heap) : KC k 68 c1 σ h (fun x σ h => G x (σ 4) h) = n1 k G (σ 0) (σ 1) (σ 4) h := (kseq (b := c2) rfl (fun σ h => n2_eq k G σ h)).trans (n1_eq0 k G σ h)
noncomputable def c28 : Code := cL c0
@[simp] def n0 {R : Type} (k : Nat) (G : KT1 R) (v0 v1 : GV) (h : Heap) : Option R := n1 k G v0 v1 (.bool false) h
theorem n0_eq0 {R : Type} (k : Nat) (G : KT1 R) (σ : GS) (h : Heap) : KC k 68 c28 σ h (fun x σ h => kx x (n1 k G (σ 0) (σ 1) (σ 4) h) (G x (σ 4) h)) = n0 k G (σ 0) (σ 1) h := by kernel_rfl
theorem n0_eq {R : Type} (k : Nat) (G : KT1 R) (σ : GS) (h : Heap) : KC k 68 c0 σ h (fun x σ h => G x (σ 4) h) = n0 k G (σ 0) (σ 1) h := (kseq (b := c1) rfl (fun σ h => n1_eq k G σ h)).trans (n0_eq0 k G σ h)
def run {R : Type} (k : Nat) (a0 : GV) (a1 : GV) (h : Heap) (fin : GV → Heap → Option R) : Option R := n0 k (fun x v4 h => kend x (fin v4 h)) a0 a1 h
theorem run_eq {R : Type} (k : Nat) (a0 : GV) (a1 : GV) (h : Heap) (fin : GV → Heap → Option R) : kfun PP cfg NN HH k fn.laws_FnExactNewTerm [a0, a1] h fin = run k a0 a1 h fin := (kfun_eq (nt := 68) (c := c0) (show PP.funcs[fn.laws_FnExactNewTerm]? = some Try.f11 by kernel_rfl) (by kernel_rfl) (by kernel_rfl) (fun x σ h => by cases x <;> kernel_rfl)).trans (n0_eq k (fun x v4 h => kend x (fin v4 h)) _ h)
theorem gives {k : Nat} {a0 : GV} {a1 : GV} {v : GV} (e : run k a0 a1 [] finN = some v) : NN fn.laws_FnExactNewTerm [a0, a1] = some v := nω_of (by kernel_rfl) ((run_eq k a0 a1 [] finN).trans e)
end S.laws_FnExactNewTerm
end
end Go.Proofs.Ytleeifecdjolhaa.G
