/- What these functions do, told for open values, out of the machine with continuations. Printed by a program of this session. -/
import Derived.Test.YtlbnioapepelnaaZ7df1697c
import Derived.KernelRfl
namespace Go.Proofs.Ytlbnioapepelnaa.G
open Go.RowKit
set_option linter.unusedVariables false
set_option maxRecDepth 100000
noncomputable section
variable {R : Type} (k : Nat)
/-! impl_isCell -/
namespace S.impl_isCell
noncomputable def c0 : Code := bodyOf Try.f285
noncomputable def c1 : Code := cR c0
noncomputable def c2 : Code := cR c1
noncomputable def c3 : Code := cR c2
@[simp] def n3 {R : Type} (k : Nat) (G : KT1 R) (v2 : GV) (h : Heap) : Option R := G .ret v2 h
theorem n3_eq (G : KT1 R) (σ : GS) (h : Heap) : KC k 40 c3 σ h (fun x σ h => G x (σ 2) h) = n3 k G (σ 2) h := by kernel_rfl
noncomputable def c4 : Code := cL c2
noncomputable def o4 : Array Oper := cO c4
@[simp] def g4_4 {R : Type} (k : Nat) (G : KT1 R) (v35 v38 : GV) (h : Heap) : Option R := (kpick v35 v38 (.bool false)).bind fun v39 => G .nrm v39 h
theorem g4_4_eq (G : KT1 R) (σ : GS) (h : Heap) : kgroups PP cfg NN HH 40 o4 [(none, [12, 13])] σ h (fun σ h => G .nrm (σ 2) h) = g4_4 k G (σ 35) (σ 38) h := by kernel_rfl
@[simp] def g4_3 (G : KT1 R) (v1 v35 : GV) (h : Heap) : Option R := bif tr true v35 then (kfa 1 v1).bind fun v36 => (kloadA 5 h v36).bind fun v37 => (kN NN fn.impl_StyleOk [v37] h).bind fun v38 => g4_4 k G v35 v38 h else g4_4 k G v35 .un h
theorem g4_3_eq (G : KT1 R) (σ : GS) (h : Heap) : kgroups PP cfg NN HH 40 o4 [(some (8, true), [9, 10, 11]), (none, [12, 13])] σ h (fun σ h => G .nrm (σ 2) h) = g4_3 k G (σ 1) (σ 35) h := (kgroups_cons (fun σ h => g4_4_eq k G σ h)).trans (by kernel_rfl)
@[simp] def g4_2 (G : KT1 R) (v1 v30 v33 : GV) (h : Heap) : Option R := (kpick v30 v33 (.bool false)).bind fun v34 => g4_3 k G v1 v34 h
theorem g4_2_eq (G : KT1 R) (σ : GS) (h : Heap) : kgroups PP cfg NN HH 40 o4 [(none, [7, 8]), (some (8, true), [9, 10, 11]), (none, [12, 13])] σ h (fun σ h => G .nrm (σ 2) h) = g4_2 k G (σ 1) (σ 30) (σ 33) h := (kgroups_cons (fun σ h => g4_3_eq k G σ h)).trans (by kernel_rfl)
@[simp] def g4_1 (G : KT1 R) (v1 v30 : GV) (h : Heap) : Option R := bif tr true v30 then (kfa 0 v1).bind fun v31 => (kload1 h v31).bind fun v32 => (kbin .eql v32 (.int .i64 0)).bind fun v33 => g4_2 k G v1 v30 v33 h else g4_2 k G v1 v30 .un h
theorem g4_1_eq (G : KT1 R) (σ : GS) (h : Heap) : kgroups PP cfg NN HH 40 o4 [(some (3, true), [4, 5, 6]), (none, [7, 8]), (some (8, true), [9, 10, 11]), (none, [12, 13])] σ h (fun σ h => G .nrm (σ 2) h) = g4_1 k G (σ 1) (σ 30) h := (kgroups_cons (fun σ h => g4_2_eq k G σ h)).trans (by kernel_rfl)
@[simp] def g4_0 (G : KT1 R) (v1 : GV) (h : Heap) : Option R := (kfa 6 v1).bind fun v27 => (kload1 h v27).bind fun v28 => (kbin .eql v28 (.int .i64 2)).bind fun v29 => g4_1 k G v1 v29 h
theorem g4_0_eq (G : KT1 R) (σ : GS) (h : Heap) : kgroups PP cfg NN HH 40 o4 [(none, [0, 1, 2, 3]), (some (3, true), [4, 5, 6]), (none, [7, 8]), (some (8, true), [9, 10, 11]), (none, [12, 13])] σ h (fun σ h => G .nrm (σ 2) h) = g4_0 k G (σ 1) h := (kgroups_cons (fun σ h => g4_1_eq k G σ h)).trans (by kernel_rfl)
@[simp] def n4 (G : KT1 R) (v1 : GV) (h : Heap) : Option R := g4_0 k G v1 h
theorem n4_eq (G : KT1 R) (σ : GS) (h : Heap) : KC k 40 c4 σ h (fun x σ h => G x (σ 2) h) = n4 k G (σ 1) h := (kregion_eq (id := 6) (draw := false) (ops := o4) (gs := [(none, [0, 1, 2, 3]), (some (3, true), [4, 5, 6]), (none, [7, 8]), (some (8, true), [9, 10, 11]), (none, [12, 13])]) (by kernel_rfl) (by kernel_rfl) (by kernel_rfl)).trans (g4_0_eq k G σ h)
@[simp] def n2 (G : KT1 R) (v1 : GV) (h : Heap) : Option R := n4 k (fun x v2 h => kx x (n3 k G v2 h) (G x v2 h)) v1 h
theorem n2_eq (G : KT1 R) (σ : GS) (h : Heap) : KC k 40 c2 σ h (fun x σ h => G x (σ 2) h) = n2 k G (σ 1) h := (kseq (b := c3) rfl (fun σ h => n3_eq k G σ h)).trans (n4_eq k (fun x v2 h => kx x (n3 k G v2 h) (G x v2 h)) σ h)
noncomputable def c5 : Code := cL c1
noncomputable def c6 : Code := cR c5
noncomputable def c7 : Code := cL c6
noncomputable def c8 : Code := cR c7
noncomputable def c9 : Code := cL c8
noncomputable def c10 : Code := cR c9
@[simp] def n10 {R : Type} (k : Nat) (G : KT2 R) (v1 v2 : GV) (h : Heap) : Option R := G .ret v1 v2 h
theorem n10_eq (G : KT2 R) (σ : GS) (h : Heap) : KC k 40 c10 σ h (fun x σ h => G x (σ 1) (σ 2) h) = n10 k G (σ 1) (σ 2) h := by kernel_rfl
noncomputable def c11 : Code := cL c9
noncomputable def o11 : Array Oper := cO c11
@[simp] def g11_2 {R : Type} (k : Nat) (G : KT2 R) (v1 v11 v14 : GV) (h : Heap) : Option R := (kpick v11 v14 (.bool false)).bind fun v15 => G .nrm v1 v15 h
theorem g11_2_eq (G : KT2 R) (σ : GS) (h : Heap) : kgroups PP cfg NN HH 40 o11 [(none, [8, 9])] σ h (fun σ h => G .nrm (σ 1) (σ 2) h) = g11_2 k G (σ 1) (σ 11) (σ 14) h := by kernel_rfl
@[simp] def g11_1 (G : KT2 R) (v1 v11 : GV) (h : Heap) : Option R := bif tr true v11 then (kfa 1 v1).bind fun v12 => (kloadA 5 h v12).bind fun v13 => (kN NN fn.impl_StyleOk [v13] h).bind fun v14 => g11_2 k G v1 v11 v14 h else g11_2 k G v1 v11 .un h
theorem g11_1_eq (G : KT2 R) (σ : GS) (h : Heap) : kgroups PP cfg NN HH 40 o11 [(some (4, true), [5, 6, 7]), (none, [8, 9])] σ h (fun σ h => G .nrm (σ 1) (σ 2) h) = g11_1 k G (σ 1) (σ 11) h := (kgroups_cons (fun σ h => g11_2_eq k G σ h)).trans (by kernel_rfl)
@[simp] def g11_0 (G : KT2 R) (v1 : GV) (h : Heap) : Option R := (kfa 0 v1).bind fun v7 => (kload1 h v7).bind fun v8 => (kN NN fn.impl_Width [v8] h).bind fun v9 => (kbin .eql v9 (.int .i64 1)).bind fun v10 => g11_1 k G v1 v10 h
theorem g11_0_eq (G : KT2 R) (σ : GS) (h : Heap) : kgroups PP cfg NN HH 40 o11 [(none, [0, 1, 2, 3, 4]), (some (4, true), [5, 6, 7]), (none, [8, 9])] σ h (fun σ h => G .nrm (σ 1) (σ 2) h) = g11_0 k G (σ 1) h := (kgroups_cons (fun σ h => g11_1_eq k G σ h)).trans (by kernel_rfl)
@[simp] def n11 (G : KT2 R) (v1 : GV) (h : Heap) : Option R := g11_0 k G v1 h
theorem n11_eq (G : KT2 R) (σ : GS) (h : Heap) : KC k 40 c11 σ h (fun x σ h => G x (σ 1) (σ 2) h) = n11 k G (σ 1) h := (kregion_eq (id := 3) (draw := false) (ops := o11) (gs := [(none, [0, 1, 2, 3, 4]), (some (4, true), [5, 6, 7]), (none, [8, 9])]) (by kernel_rfl) (by kernel_rfl) (by kernel_rfl)).trans (g11_0_eq k G σ h)
@[simp] def n9 (G : KT2 R) (v1 : GV) (h : Heap) : Option R := n11 k (fun x v1 v2 h => kx x (n10 k G v1 v2 h) (G x v1 v2 h)) v1 h
theorem n9_eq (G : KT2 R) (σ : GS) (h : Heap) : KC k 40 c9 σ h (fun x σ h => G x (σ 1) (σ 2) h) = n9 k G (σ 1) h := (kseq (b := c10) rfl (fun σ h => n10_eq k G σ h)).trans (n11_eq k (fun x v1 v2 h => kx x (n10 k G v1 v2 h) (G x v1 v2 h)) σ h)
noncomputable def c12 : Code := cR c8
noncomputable def c13 : Code := cR c12
noncomputable def c14 : Code := cL c13
noncomputable def c15 : Code := cR c14
@[simp] def n15 {R : Type} (k : Nat) (G : KT2 R) (v1 v2 : GV) (h : Heap) : Option R := G .ret v1 v2 h
theorem n15_eq (G : KT2 R) (σ : GS) (h : Heap) : KC k 40 c15 σ h (fun x σ h => G x (σ 1) (σ 2) h) = n15 k G (σ 1) (σ 2) h := by kernel_rfl
noncomputable def c16 : Code := cL c14
noncomputable def o16 : Array Oper := cO c16
@[simp] def g16_2 {R : Type} (k : Nat) (G : KT2 R) (v1 v22 v25 : GV) (h : Heap) : Option R := (kpick v22 v25 (.bool false)).bind fun v26 => G .nrm v1 v26 h
theorem g16_2_eq (G : KT2 R) (σ : GS) (h : Heap) : kgroups PP cfg NN HH 40 o16 [(none, [8, 9])] σ h (fun σ h => G .nrm (σ 1) (σ 2) h) = g16_2 k G (σ 1) (σ 22) (σ 25) h := by kernel_rfl
@[simp] def g16_1 (G : KT2 R) (v1 v22 : GV) (h : Heap) : Option R := bif tr true v22 then (kfa 1 v1).bind fun v23 => (kloadA 5 h v23).bind fun v24 => (kN NN fn.impl_StyleOk [v24] h).bind fun v25 => g16_2 k G v1 v22 v25 h else g16_2 k G v1 v22 .un h
theorem g16_1_eq (G : KT2 R) (σ : GS) (h : Heap) : kgroups PP cfg NN HH 40 o16 [(some (4, true), [5, 6, 7]), (none, [8, 9])] σ h (fun σ h => G .nrm (σ 1) (σ 2) h) = g16_1 k G (σ 1) (σ 22) h := (kgroups_cons (fun σ h => g16_2_eq k G σ h)).trans (by kernel_rfl)
@[simp] def g16_0 (G : KT2 R) (v1 : GV) (h : Heap) : Option R := (kfa 0 v1).bind fun v18 => (kload1 h v18).bind fun v19 => (kN NN fn.impl_Width [v19] h).bind fun v20 => (kbin .eql v20 (.int .i64 2)).bind fun v21 => g16_1 k G v1 v21 h
theorem g16_0_eq (G : KT2 R) (σ : GS) (h : Heap) : kgroups PP cfg NN HH 40 o16 [(none, [0, 1, 2, 3, 4]), (some (4, true), [5, 6, 7]), (none, [8, 9])] σ h (fun σ h => G .nrm (σ 1) (σ 2) h) = g16_0 k G (σ 1) h := (kgroups_cons (fun σ h => g16_1_eq k G σ h)).trans (by kernel_rfl)
@[simp] def n16 (G : KT2 R) (v1 : GV) (h : Heap) : Option R := g16_0 k G v1 h
theorem n16_eq (G : KT2 R) (σ : GS) (h : Heap) : KC k 40 c16 σ h (fun x σ h => G x (σ 1) (σ 2) h) = n16 k G (σ 1) h := (kregion_eq (id := 5) (draw := false) (ops := o16) (gs := [(none, [0, 1, 2, 3, 4]), (some (4, true), [5, 6, 7]), (none, [8, 9])]) (by kernel_rfl) (by kernel_rfl) (by kernel_rfl)).trans (g16_0_eq k G σ h)
@[simp] def n14 (G : KT2 R) (v1 : GV) (h : Heap) : Option R := n16 k (fun x v1 v2 h => kx x (n15 k G v1 v2 h) (G x v1 v2 h)) v1 h
theorem n14_eq (G : KT2 R) (σ : GS) (h : Heap) : KC k 40 c14 σ h (fun x σ h => G x (σ 1) (σ 2) h) = n14 k G (σ 1) h := (kseq (b := c15) rfl (fun σ h => n15_eq k G σ h)).trans (n16_eq k (fun x v1 v2 h => kx x (n15 k G v1 v2 h) (G x v1 v2 h)) σ h)
noncomputable def c17 : Code := cR c13
@[simp] def n17 {R : Type} (k : Nat) (G : KT2 R) (v1 v2 : GV) (h : Heap) : Option R := G .nrm v1 v2 h
theorem n17_eq (G : KT2 R) (σ : GS) (h : Heap) : KC k 40 c17 σ h (fun x σ h => G x (σ 1) (σ 2) h) = n17 k G (σ 1) (σ 2) h := by kernel_rfl
@[simp] def n13 (G : KT2 R) (v1 v2 v16 : GV) (h : Heap) : Option R := kcond v16 (n14 k G v1 h) (n17 k G v1 v2 h)
theorem n13_eq (G : KT2 R) (σ : GS) (h : Heap) : KC k 40 c13 σ h (fun x σ h => G x (σ 1) (σ 2) h) = n13 k G (σ 1) (σ 2) (σ 16) h := (kcond_eq (a := c14) (b := c17) rfl (by rfl)).trans (congr (congrArg (kcond (σ 16)) (n14_eq k G σ h)) (n17_eq k G σ h))
noncomputable def c18 : Code := cL c12
@[simp] def n12 (G : KT2 R) (v1 v2 v4 : GV) (h : Heap) : Option R := (kbin .eql v4 (.int .i64 1)).bind fun v17 => n13 k G v1 v2 v17 h
theorem n12_eq (G : KT2 R) (σ : GS) (h : Heap) : KC k 40 c12 σ h (fun x σ h => G x (σ 1) (σ 2) h) = n12 k G (σ 1) (σ 2) (σ 4) h := (kseq (a := c18) (b := c13) rfl (fun σ h => n13_eq k G σ h)).trans (by kernel_rfl)
@[simp] def n8 (G : KT2 R) (v1 v2 v4 v5 : GV) (h : Heap) : Option R := kcond v5 (n9 k G v1 h) (n12 k G v1 v2 v4 h)
theorem n8_eq (G : KT2 R) (σ : GS) (h : Heap) : KC k 40 c8 σ h (fun x σ h => G x (σ 1) (σ 2) h) = n8 k G (σ 1) (σ 2) (σ 4) (σ 5) h := (kcond_eq (a := c9) (b := c12) rfl (by rfl)).trans (congr (congrArg (kcond (σ 5)) (n9_eq k G σ h)) (n12_eq k G σ h))
noncomputable def c19 : Code := cL c7
@[simp] def n7 (G : KT2 R) (v1 v2 v4 : GV) (h : Heap) : Option R := (kbin .eql v4 (.int .i64 0)).bind fun v6 => n8 k G v1 v2 v4 v6 h
theorem n7_eq (G : KT2 R) (σ : GS) (h : Heap) : KC k 40 c7 σ h (fun x σ h => G x (σ 1) (σ 2) h) = n7 k G (σ 1) (σ 2) (σ 4) h := (kseq (a := c19) (b := c8) rfl (fun σ h => n8_eq k G σ h)).trans (by kernel_rfl)
@[simp] def n6 (G : KT2 R) (v1 v2 v4 : GV) (h : Heap) : Option R := n7 k (fun x v1 v2 h => kb 0 x fun x => G x v1 v2 h) v1 v2 v4 h
theorem n6_eq (G : KT2 R) (σ : GS) (h : Heap) : KC k 40 c6 σ h (fun x σ h => G x (σ 1) (σ 2) h) = n6 k G (σ 1) (σ 2) (σ 4) h := (kblock_eq (a := c7) rfl).trans (n7_eq k (fun x v1 v2 h => kb 0 x fun x => G x v1 v2 h) σ h)
noncomputable def c20 : Code := cL c5
@[simp] def n5 (G : KT2 R) (v1 v2 : GV) (h : Heap) : Option R := (kfa 6 v1).bind fun v3 => (kload1 h v3).bind fun v4 => n6 k G v1 v2 v4 h
theorem n5_eq (G : KT2 R) (σ : GS) (h : Heap) : KC k 40 c5 σ h (fun x σ h => G x (σ 1) (σ 2) h) = n5 k G (σ 1) (σ 2) h := (kseq (a := c20) (b := c6) rfl (fun σ h => n6_eq k G σ h)).trans (by kernel_rfl)
@[simp] def n1 (G : KT1 R) (v1 v2 : GV) (h : Heap) : Option R := n5 k (fun x v1 v2 h => kx x (n2 k G v1 h) (G x v2 h)) v1 v2 h
theorem n1_eq (G : KT1 R) (σ : GS) (h : Heap) : KC k 40 c1 σ h (fun x σ h => G x (σ 2) h) = n1 k G (σ 1) (σ 2) h := (kseq (b := c2) rfl (fun σ h => n2_eq k G σ h)).trans (n5_eq k (fun x v1 v2 h => kx x (n2 k G v1 h) (G x v2 h)) σ h)
noncomputable def c21 : Code := cL c0
@[simp] def n0 (G : KT1 R) (v0 : GV) (h : Heap) : Option R := kbox v0 h fun v1 h => n1 k G v1 (.bool false) h
theorem n0_eq (G : KT1 R) (σ : GS) (h : Heap) : KC k 40 c0 σ h (fun x σ h => G x (σ 2) h) = n0 k G (σ 0) h := (kseq (a := c21) (b := c1) rfl (fun σ h => n1_eq k G σ h)).trans (by kernel_rfl)
def run {R : Type} (k : Nat) (a0 : GV) (h : Heap) (fin : GV → Heap → Option R) : Option R := n0 k (fun x v2 h => kend x (fin v2 h)) a0 h
theorem run_eq {R : Type} (k : Nat) (a0 : GV) (h : Heap) (fin : GV → Heap → Option R) : kfun PP cfg NN HH k fn.impl_isCell [a0] h fin = run k a0 h fin := (kfun_eq (nt := 40) (c := c0) (show PP.funcs[fn.impl_isCell]? = some Try.f285 by kernel_rfl) (by kernel_rfl) (by kernel_rfl) (fun x σ h => by cases x <;> kernel_rfl)).trans (n0_eq k (fun x v2 h => kend x (fin v2 h)) _ h)
theorem gives {k : Nat} {a0 : GV} {v : GV} (e : run k a0 [] finN = some v) : NN fn.impl_isCell [a0] = some v := nω_of (by kernel_rfl) ((run_eq k a0 [] finN).trans e)
end S.impl_isCell
/-! impl_RowOk -/
namespace S.impl_RowOk
noncomputable def c0 : Code := bodyOf Try.f271
noncomputable def c1 : Code := cR c0
noncomputable def c2 : Code := cR c1
noncomputable def c3 : Code := cR c2
@[simp] def n3 {R : Type} (k : Nat) (G : KT1 R) (v2 : GV) (h : Heap) : Option R := G .ret v2 h
theorem n3_eq (G : KT1 R) (σ : GS) (h : Heap) : KC k 62 c3 σ h (fun x σ h => G x (σ 2) h) = n3 k G (σ 2) h := by kernel_rfl
noncomputable def c4 : Code := cL c2
noncomputable def o4 : Array Oper := cO c4
@[simp] def g4_2 {R : Type} (k : Nat) (G : KT1 R) (v52 v60 : GV) (h : Heap) : Option R := (kpick v52 v60 (.bool false)).bind fun v61 => G .nrm v61 h
theorem g4_2_eq (G : KT1 R) (σ : GS) (h : Heap) : kgroups PP cfg NN HH 62 o4 [(none, [12, 13])] σ h (fun σ h => G .nrm (σ 2) h) = g4_2 k G (σ 52) (σ 60) h := by kernel_rfl
@[simp] def g4_1 (G : KT1 R) (v0 v52 : GV) (h : Heap) : Option R := bif tr true v52 then (klen v0).bind fun v55 => (kbin .sub v55 (.int .i64 1)).bind fun v56 => (kia 7 v0 v56).bind fun v57 => (kfa 6 v57).bind fun v58 => (kload1 h v58).bind fun v59 => (kbin .neq v59 (.int .i64 1)).bind fun v60 => g4_2 k G v52 v60 h else g4_2 k G v52 .un h
theorem g4_1_eq (G : KT1 R) (σ : GS) (h : Heap) : kgroups PP cfg NN HH 62 o4 [(some (3, true), [4, 5, 6, 7, 8, 9, 10, 11]), (none, [12, 13])] σ h (fun σ h => G .nrm (σ 2) h) = g4_1 k G (σ 0) (σ 52) h := (kgroups_cons (fun σ h => g4_2_eq k G σ h)).trans (by kernel_rfl)
@[simp] def g4_0 (G : KT1 R) (v0 : GV) (h : Heap) : Option R := (klen v0).bind fun v50 => (kN NN fn.impl_in [v50, (.int .i64 1), (.int .i64 60)] h).bind fun v51 => g4_1 k G v0 v51 h
theorem g4_0_eq (G : KT1 R) (σ : GS) (h : Heap) : kgroups PP cfg NN HH 62 o4 [(none, [0, 1, 2, 3]), (some (3, true), [4, 5, 6, 7, 8, 9, 10, 11]), (none, [12, 13])] σ h (fun σ h => G .nrm (σ 2) h) = g4_0 k G (σ 0) h := (kgroups_cons (fun σ h => g4_1_eq k G σ h)).trans (by kernel_rfl)
@[simp] def n4 (G : KT1 R) (v0 : GV) (h : Heap) : Option R := g4_0 k G v0 h
theorem n4_eq (G : KT1 R) (σ : GS) (h : Heap) : KC k 62 c4 σ h (fun x σ h => G x (σ 2) h) = n4 k G (σ 0) h := (kregion_eq (id := 8) (draw := false) (ops := o4) (gs := [(none, [0, 1, 2, 3]), (some (3, true), [4, 5, 6, 7, 8, 9, 10, 11]), (none, [12, 13])]) (by kernel_rfl) (by kernel_rfl) (by kernel_rfl)).trans (g4_0_eq k G σ h)
@[simp] def n2 (G : KT1 R) (v0 : GV) (h : Heap) : Option R := n4 k (fun x v2 h => kx x (n3 k G v2 h) (G x v2 h)) v0 h
theorem n2_eq (G : KT1 R) (σ : GS) (h : Heap) : KC k 62 c2 σ h (fun x σ h => G x (σ 2) h) = n2 k G (σ 0) h := (kseq (b := c3) rfl (fun σ h => n3_eq k G σ h)).trans (n4_eq k (fun x v2 h => kx x (n3 k G v2 h) (G x v2 h)) σ h)
noncomputable def c5 : Code := cL c1
noncomputable def c6 : Code := cR c5
noncomputable def c7 : Code := cL c6
noncomputable def c8 : Code := cL c7
noncomputable def c9 : Code := cR c8
noncomputable def c10 : Code := cR c9
noncomputable def c11 : Code := cR c10
@[simp] def n11 {R : Type} (k : Nat) (G : KT5 R) (v0 v2 v6 v7 v8 : GV) (h : Heap) : Option R := (kbin .add v8 (.int .i64 1)).bind fun v48 => G .nrm v0 v2 v6 v7 v48 h
theorem n11_eq (G : KT5 R) (σ : GS) (h : Heap) : KC k 62 c11 σ h (fun x σ h => G x (σ 0) (σ 2) (σ 6) (σ 7) (σ 8) h) = n11 k G (σ 0) (σ 2) (σ 6) (σ 7) (σ 8) h := by kernel_rfl
noncomputable def c12 : Code := cL c10
noncomputable def c13 : Code := cL c12
noncomputable def c14 : Code := cR c13
noncomputable def c15 : Code := cR c14
noncomputable def c16 : Code := cR c15
@[simp] def n16 {R : Type} (k : Nat) (G : KT5 R) (v0 v2 v6 v7 v8 v47 : GV) (h : Heap) : Option R := kcond v47 (G .ret v0 (.bool false) v6 v7 v8 h) (G .nrm v0 v2 v6 v7 v8 h)
theorem n16_eq (G : KT5 R) (σ : GS) (h : Heap) : KC k 62 c16 σ h (fun x σ h => G x (σ 0) (σ 2) (σ 6) (σ 7) (σ 8) h) = n16 k G (σ 0) (σ 2) (σ 6) (σ 7) (σ 8) (σ 47) h := by kernel_rfl
noncomputable def c17 : Code := cL c15
noncomputable def o17 : Array Oper := cO c17
@[simp] def g17_6 {R : Type} (k : Nat) (G : KT6 R) (v0 v2 v6 v7 v8 v34 v46 : GV) (h : Heap) : Option R := (kpick v34 (.bool true) v46).bind fun v47 => G .nrm v0 v2 v6 v7 v8 v47 h
theorem g17_6_eq (G : KT6 R) (σ : GS) (h : Heap) : kgroups PP cfg NN HH 62 o17 [(none, [23])] σ h (fun σ h => G .nrm (σ 0) (σ 2) (σ 6) (σ 7) (σ 8) (σ 47) h) = g17_6 k G (σ 0) (σ 2) (σ 6) (σ 7) (σ 8) (σ 34) (σ 46) h := by kernel_rfl
@[simp] def g17_5 (G : KT6 R) (v0 v2 v6 v7 v8 v34 v36 v45 : GV) (h : Heap) : Option R := bif tr false v34 then (kpick v36 v45 (.bool false)).bind fun v46 => g17_6 k G v0 v2 v6 v7 v8 v34 v46 h else g17_6 k G v0 v2 v6 v7 v8 v34 .un h
theorem g17_5_eq (G : KT6 R) (σ : GS) (h : Heap) : kgroups PP cfg NN HH 62 o17 [(some (10, false), [22]), (none, [23])] σ h (fun σ h => G .nrm (σ 0) (σ 2) (σ 6) (σ 7) (σ 8) (σ 47) h) = g17_5 k G (σ 0) (σ 2) (σ 6) (σ 7) (σ 8) (σ 34) (σ 36) (σ 45) h := (kgroups_cons (fun σ h => g17_6_eq k G σ h)).trans (by kernel_rfl)
@[simp] def g17_4 (G : KT6 R) (v0 v2 v3 v4 v6 v7 v8 v34 v36 : GV) (h : Heap) : Option R := bif tr true v36 then (kbin .sub v3 (.int .i64 1)).bind fun v39 => (kia 7 v0 v39).bind fun v40 => (kfa 1 v40).bind fun v41 => (kloadA 5 h v41).bind fun v42 => (kfa 1 v4).bind fun v43 => (kloadA 5 h v43).bind fun v44 => (keqS PP .neq ty.impl_Style v42 v44).bind fun v45 => g17_5 k G v0 v2 v6 v7 v8 v34 v36 v45 h else g17_5 k G v0 v2 v6 v7 v8 v34 v36 .un h
theorem g17_4_eq (G : KT6 R) (σ : GS) (h : Heap) : kgroups PP cfg NN HH 62 o17 [(some (12, true), [13, 14, 15, 16, 17, 18, 19, 20, 21]), (some (10, false), [22]), (none, [23])] σ h (fun σ h => G .nrm (σ 0) (σ 2) (σ 6) (σ 7) (σ 8) (σ 47) h) = g17_4 k G (σ 0) (σ 2) (σ 3) (σ 4) (σ 6) (σ 7) (σ 8) (σ 34) (σ 36) h := (kgroups_cons (fun σ h => g17_5_eq k G σ h)).trans (by kernel_rfl)
@[simp] def g17_3 (G : KT6 R) (v0 v2 v3 v4 v5 v6 v7 v8 v34 : GV) (h : Heap) : Option R := bif tr false v34 then g17_4 k G v0 v2 v3 v4 v6 v7 v8 v34 v5 h else g17_4 k G v0 v2 v3 v4 v6 v7 v8 v34 .un h
theorem g17_3_eq (G : KT6 R) (σ : GS) (h : Heap) : kgroups PP cfg NN HH 62 o17 [(some (10, false), [11, 12]), (some (12, true), [13, 14, 15, 16, 17, 18, 19, 20, 21]), (some (10, false), [22]), (none, [23])] σ h (fun σ h => G .nrm (σ 0) (σ 2) (σ 6) (σ 7) (σ 8) (σ 47) h) = g17_3 k G (σ 0) (σ 2) (σ 3) (σ 4) (σ 5) (σ 6) (σ 7) (σ 8) (σ 34) h := (kgroups_cons (fun σ h => g17_4_eq k G σ h)).trans (by kernel_rfl)
@[simp] def g17_2 (G : KT6 R) (v0 v2 v3 v4 v5 v6 v7 v8 v27 v32 : GV) (h : Heap) : Option R := (kpick v27 (.bool true) v32).bind fun v33 => g17_3 k G v0 v2 v3 v4 v5 v6 v7 v8 v33 h
theorem g17_2_eq (G : KT6 R) (σ : GS) (h : Heap) : kgroups PP cfg NN HH 62 o17 [(none, [9, 10]), (some (10, false), [11, 12]), (some (12, true), [13, 14, 15, 16, 17, 18, 19, 20, 21]), (some (10, false), [22]), (none, [23])] σ h (fun σ h => G .nrm (σ 0) (σ 2) (σ 6) (σ 7) (σ 8) (σ 47) h) = g17_2 k G (σ 0) (σ 2) (σ 3) (σ 4) (σ 5) (σ 6) (σ 7) (σ 8) (σ 27) (σ 32) h := (kgroups_cons (fun σ h => g17_3_eq k G σ h)).trans (by kernel_rfl)
@[simp] def g17_1 (G : KT6 R) (v0 v2 v3 v4 v5 v6 v7 v8 v27 : GV) (h : Heap) : Option R := bif tr false v27 then (kfa 6 v4).bind fun v29 => (kload1 h v29).bind fun v30 => (kbin .eql v30 (.int .i64 2)).bind fun v31 => (keqB .neq v5 v31).bind fun v32 => g17_2 k G v0 v2 v3 v4 v5 v6 v7 v8 v27 v32 h else g17_2 k G v0 v2 v3 v4 v5 v6 v7 v8 v27 .un h
theorem g17_1_eq (G : KT6 R) (σ : GS) (h : Heap) : kgroups PP cfg NN HH 62 o17 [(some (3, false), [4, 5, 6, 7, 8]), (none, [9, 10]), (some (10, false), [11, 12]), (some (12, true), [13, 14, 15, 16, 17, 18, 19, 20, 21]), (some (10, false), [22]), (none, [23])] σ h (fun σ h => G .nrm (σ 0) (σ 2) (σ 6) (σ 7) (σ 8) (σ 47) h) = g17_1 k G (σ 0) (σ 2) (σ 3) (σ 4) (σ 5) (σ 6) (σ 7) (σ 8) (σ 27) h := (kgroups_cons (fun σ h => g17_2_eq k G σ h)).trans (by kernel_rfl)
@[simp] def g17_0 (G : KT6 R) (v0 v2 v3 v4 v5 v6 v7 v8 : GV) (h : Heap) : Option R := (kloadA 7 h v4).bind fun v24 => (kN NN fn.impl_isCell [v24] h).bind fun v25 => (kun .not v25).bind fun v26 => g17_1 k G v0 v2 v3 v4 v5 v6 v7 v8 v26 h
theorem g17_0_eq (G : KT6 R) (σ : GS) (h : Heap) : kgroups PP cfg NN HH 62 o17 [(none, [0, 1, 2, 3]), (some (3, false), [4, 5, 6, 7, 8]), (none, [9, 10]), (some (10, false), [11, 12]), (some (12, true), [13, 14, 15, 16, 17, 18, 19, 20, 21]), (some (10, false), [22]), (none, [23])] σ h (fun σ h => G .nrm (σ 0) (σ 2) (σ 6) (σ 7) (σ 8) (σ 47) h) = g17_0 k G (σ 0) (σ 2) (σ 3) (σ 4) (σ 5) (σ 6) (σ 7) (σ 8) h := (kgroups_cons (fun σ h => g17_1_eq k G σ h)).trans (by kernel_rfl)
@[simp] def n17 (G : KT6 R) (v0 v2 v3 v4 v5 v6 v7 v8 : GV) (h : Heap) : Option R := g17_0 k G v0 v2 v3 v4 v5 v6 v7 v8 h
theorem n17_eq (G : KT6 R) (σ : GS) (h : Heap) : KC k 62 c17 σ h (fun x σ h => G x (σ 0) (σ 2) (σ 6) (σ 7) (σ 8) (σ 47) h) = n17 k G (σ 0) (σ 2) (σ 3) (σ 4) (σ 5) (σ 6) (σ 7) (σ 8) h := (kregion_eq (id := 5) (draw := true) (ops := o17) (gs := [(none, [0, 1, 2, 3]), (some (3, false), [4, 5, 6, 7, 8]), (none, [9, 10]), (some (10, false), [11, 12]), (some (12, true), [13, 14, 15, 16, 17, 18, 19, 20, 21]), (some (10, false), [22]), (none, [23])]) (by kernel_rfl) (by kernel_rfl) (by kernel_rfl)).trans (g17_0_eq k G σ h)
@[simp] def n15 (G : KT5 R) (v0 v2 v3 v4 v5 v6 v7 v8 : GV) (h : Heap) : Option R := n17 k (fun x v0 v2 v6 v7 v8 v47 h => kx x (n16 k G v0 v2 v6 v7 v8 v47 h) (G x v0 v2 v6 v7 v8 h)) v0 v2 v3 v4 v5 v6 v7 v8 h
theorem n15_eq (G : KT5 R) (σ : GS) (h : Heap) : KC k 62 c15 σ h (fun x σ h => G x (σ 0) (σ 2) (σ 6) (σ 7) (σ 8) h) = n15 k G (σ 0) (σ 2) (σ 3) (σ 4) (σ 5) (σ 6) (σ 7) (σ 8) h := (kseq (b := c16) rfl (fun σ h => n16_eq k G σ h)).trans (n17_eq k (fun x v0 v2 v6 v7 v8 v47 h => kx x (n16 k G v0 v2 v6 v7 v8 v47 h) (G x v0 v2 v6 v7 v8 h)) σ h)
noncomputable def c18 : Code := cL c14
noncomputable def o18 : Array Oper := cO c18
@[simp] def g18_2 {R : Type} (k : Nat) (G : KT8 R) (v0 v2 v3 v4 v6 v7 v8 v15 v22 : GV) (h : Heap) : Option R := (kpick v15 v22 (.bool false)).bind fun v23 => G .nrm v0 v2 v3 v4 v23 v6 v7 v8 h
theorem g18_2_eq (G : KT8 R) (σ : GS) (h : Heap) : kgroups PP cfg NN HH 62 o18 [(none, [10, 11])] σ h (fun σ h => G .nrm (σ 0) (σ 2) (σ 3) (σ 4) (σ 5) (σ 6) (σ 7) (σ 8) h) = g18_2 k G (σ 0) (σ 2) (σ 3) (σ 4) (σ 6) (σ 7) (σ 8) (σ 15) (σ 22) h := by kernel_rfl
@[simp] def g18_1 (G : KT8 R) (v0 v2 v3 v4 v6 v7 v8 v15 : GV) (h : Heap) : Option R := bif tr true v15 then (kbin .sub v3 (.int .i64 1)).bind fun v18 => (kia 7 v0 v18).bind fun v19 => (kfa 6 v19).bind fun v20 => (kload1 h v20).bind fun v21 => (kbin .eql v21 (.int .i64 1)).bind fun v22 => g18_2 k G v0 v2 v3 v4 v6 v7 v8 v15 v22 h else g18_2 k G v0 v2 v3 v4 v6 v7 v8 v15 .un h
theorem g18_1_eq (G : KT8 R) (σ : GS) (h : Heap) : kgroups PP cfg NN HH 62 o18 [(some (2, true), [3, 4, 5, 6, 7, 8, 9]), (none, [10, 11])] σ h (fun σ h => G .nrm (σ 0) (σ 2) (σ 3) (σ 4) (σ 5) (σ 6) (σ 7) (σ 8) h) = g18_1 k G (σ 0) (σ 2) (σ 3) (σ 4) (σ 6) (σ 7) (σ 8) (σ 15) h := (kgroups_cons (fun σ h => g18_2_eq k G σ h)).trans (by kernel_rfl)
@[simp] def g18_0 (G : KT8 R) (v0 v2 v3 v4 v6 v7 v8 : GV) (h : Heap) : Option R := (kbin .gtr v3 (.int .i64 0)).bind fun v14 => g18_1 k G v0 v2 v3 v4 v6 v7 v8 v14 h
theorem g18_0_eq (G : KT8 R) (σ : GS) (h : Heap) : kgroups PP cfg NN HH 62 o18 [(none, [0, 1, 2]), (some (2, true), [3, 4, 5, 6, 7, 8, 9]), (none, [10, 11])] σ h (fun σ h => G .nrm (σ 0) (σ 2) (σ 3) (σ 4) (σ 5) (σ 6) (σ 7) (σ 8) h) = g18_0 k G (σ 0) (σ 2) (σ 3) (σ 4) (σ 6) (σ 7) (σ 8) h := (kgroups_cons (fun σ h => g18_1_eq k G σ h)).trans (by kernel_rfl)
@[simp] def n18 (G : KT8 R) (v0 v2 v3 v4 v6 v7 v8 : GV) (h : Heap) : Option R := g18_0 k G v0 v2 v3 v4 v6 v7 v8 h
theorem n18_eq (G : KT8 R) (σ : GS) (h : Heap) : KC k 62 c18 σ h (fun x σ h => G x (σ 0) (σ 2) (σ 3) (σ 4) (σ 5) (σ 6) (σ 7) (σ 8) h) = n18 k G (σ 0) (σ 2) (σ 3) (σ 4) (σ 6) (σ 7) (σ 8) h := (kregion_eq (id := 4) (draw := false) (ops := o18) (gs := [(none, [0, 1, 2]), (some (2, true), [3, 4, 5, 6, 7, 8, 9]), (none, [10, 11])]) (by kernel_rfl) (by kernel_rfl) (by kernel_rfl)).trans (g18_0_eq k G σ h)
@[simp] def n14 (G : KT5 R) (v0 v2 v3 v4 v6 v7 v8 : GV) (h : Heap) : Option R := n18 k (fun x v0 v2 v3 v4 v5 v6 v7 v8 h => kx x (n15 k G v0 v2 v3 v4 v5 v6 v7 v8 h) (G x v0 v2 v6 v7 v8 h)) v0 v2 v3 v4 v6 v7 v8 h
theorem n14_eq (G : KT5 R) (σ : GS) (h : Heap) : KC k 62 c14 σ h (fun x σ h => G x (σ 0) (σ 2) (σ 6) (σ 7) (σ 8) h) = n14 k G (σ 0) (σ 2) (σ 3) (σ 4) (σ 6) (σ 7) (σ 8) h := (kseq (b := c15) rfl (fun σ h => n15_eq k G σ h)).trans (n18_eq k (fun x v0 v2 v3 v4 v5 v6 v7 v8 h => kx x (n15 k G v0 v2 v3 v4 v5 v6 v7 v8 h) (G x v0 v2 v6 v7 v8 h)) σ h)
noncomputable def c19 : Code := cL c13
@[simp] def n13 (G : KT5 R) (v0 v2 v6 v7 v8 : GV) (h : Heap) : Option R := (kia 7 v6 v8).bind fun v11 => (kloadA 7 h v11).bind fun v12 => kalloc [(.int .i64 0), (.int .i64 0), (.int .i64 0), (.bool false), (.bool false), (.bool false), (.int .i64 0)] h fun v4 h => (kstore 7 h v4 v12).bind fun h => n14 k G v0 v2 v8 v4 v6 v7 v8 h
theorem n13_eq (G : KT5 R) (σ : GS) (h : Heap) : KC k 62 c13 σ h (fun x σ h => G x (σ 0) (σ 2) (σ 6) (σ 7) (σ 8) h) = n13 k G (σ 0) (σ 2) (σ 6) (σ 7) (σ 8) h := (kseq (a := c19) (b := c14) rfl (fun σ h => n14_eq k G σ h)).trans (by kernel_rfl)
@[simp] def n12 (G : KT5 R) (v0 v2 v6 v7 v8 : GV) (h : Heap) : Option R := n13 k (fun x v0 v2 v6 v7 v8 h => kb 1 x fun x => G x v0 v2 v6 v7 v8 h) v0 v2 v6 v7 v8 h
theorem n12_eq (G : KT5 R) (σ : GS) (h : Heap) : KC k 62 c12 σ h (fun x σ h => G x (σ 0) (σ 2) (σ 6) (σ 7) (σ 8) h) = n12 k G (σ 0) (σ 2) (σ 6) (σ 7) (σ 8) h := (kblock_eq (a := c13) rfl).trans (n13_eq k (fun x v0 v2 v6 v7 v8 h => kb 1 x fun x => G x v0 v2 v6 v7 v8 h) σ h)
@[simp] def n10 (G : KT5 R) (v0 v2 v6 v7 v8 : GV) (h : Heap) : Option R := n12 k (fun x v0 v2 v6 v7 v8 h => kx x (n11 k G v0 v2 v6 v7 v8 h) (G x v0 v2 v6 v7 v8 h)) v0 v2 v6 v7 v8 h
theorem n10_eq (G : KT5 R) (σ : GS) (h : Heap) : KC k 62 c10 σ h (fun x σ h => G x (σ 0) (σ 2) (σ 6) (σ 7) (σ 8) h) = n10 k G (σ 0) (σ 2) (σ 6) (σ 7) (σ 8) h := (kseq (b := c11) rfl (fun σ h => n11_eq k G σ h)).trans (n12_eq k (fun x v0 v2 v6 v7 v8 h => kx x (n11 k G v0 v2 v6 v7 v8 h) (G x v0 v2 v6 v7 v8 h)) σ h)
noncomputable def c20 : Code := cL c9
@[simp] def n9 (G : KT5 R) (v0 v2 v6 v7 v8 v9 : GV) (h : Heap) : Option R := kcond v9 (n10 k G v0 v2 v6 v7 v8 h) (G (.ext 0) v0 v2 v6 v7 v8 h)
theorem n9_eq (G : KT5 R) (σ : GS) (h : Heap) : KC k 62 c9 σ h (fun x σ h => G x (σ 0) (σ 2) (σ 6) (σ 7) (σ 8) h) = n9 k G (σ 0) (σ 2) (σ 6) (σ 7) (σ 8) (σ 9) h := (kseq (a := c20) (b := c10) rfl (fun σ h => n10_eq k G σ h)).trans (by kernel_rfl)
noncomputable def c21 : Code := cL c8
@[simp] def n8 (G : KT5 R) (v0 v2 v6 v7 v8 : GV) (h : Heap) : Option R := (kbin .lss v8 v7).bind fun v9 => n9 k G v0 v2 v6 v7 v8 v9 h
theorem n8_eq (G : KT5 R) (σ : GS) (h : Heap) : KC k 62 c8 σ h (fun x σ h => G x (σ 0) (σ 2) (σ 6) (σ 7) (σ 8) h) = n8 k G (σ 0) (σ 2) (σ 6) (σ 7) (σ 8) h := (kseq (a := c21) (b := c9) rfl (fun σ h => n9_eq k G σ h)).trans (by kernel_rfl)
def l7 {R : Type} (k : Nat) (G : KT2 R) : Nat → GV → GV → GV → GV → GV → Heap → Option R
  | 0, _, _, _, _, _, _ => none
  | r + 1, v0, v2, v6, v7, v8, h => n8 k (fun x v0 v2 v6 v7 v8 h => kx x (l7 k G r v0 v2 v6 v7 v8 h) (G x v0 v2 h)) v0 v2 v6 v7 v8 h
theorem l7_eq {R : Type} (k : Nat) (G : KT2 R) : ∀ (r : Nat) (σ : GS) (h : Heap), kloop (fun σ h K => KC k 62 c8 σ h K) r σ h (fun x σ h => G x (σ 0) (σ 2) h) = l7 k G r (σ 0) (σ 2) (σ 6) (σ 7) (σ 8) h
  | 0, _, _ => rfl
  | r + 1, σ, h => (kloop_eq (fun σ h => l7_eq k G r σ h)).trans (n8_eq k (fun x v0 v2 v6 v7 v8 h => kx x (l7 k G r v0 v2 v6 v7 v8 h) (G x v0 v2 h)) σ h)
@[simp] def n7 (G : KT2 R) (v0 v2 v6 v7 v8 : GV) (h : Heap) : Option R := l7 k G k v0 v2 v6 v7 v8 h
theorem n7_eq (G : KT2 R) (σ : GS) (h : Heap) : KC k 62 c7 σ h (fun x σ h => G x (σ 0) (σ 2) h) = n7 k G (σ 0) (σ 2) (σ 6) (σ 7) (σ 8) h := (kloopc_eq (a := c8) rfl).trans (l7_eq k G k σ h)
@[simp] def n6 (G : KT2 R) (v0 v2 v6 v7 v8 : GV) (h : Heap) : Option R := n7 k (fun x v0 v2 h => kb 0 x fun x => G x v0 v2 h) v0 v2 v6 v7 v8 h
theorem n6_eq (G : KT2 R) (σ : GS) (h : Heap) : KC k 62 c6 σ h (fun x σ h => G x (σ 0) (σ 2) h) = n6 k G (σ 0) (σ 2) (σ 6) (σ 7) (σ 8) h := (kblock_eq (a := c7) rfl).trans (n7_eq k (fun x v0 v2 h => kb 0 x fun x => G x v0 v2 h) σ h)
noncomputable def c22 : Code := cL c5
@[simp] def n5 (G : KT2 R) (v0 v2 : GV) (h : Heap) : Option R := (klen v0).bind fun v7 => n6 k G v0 v2 v0 v7 (.int .i64 0) h
theorem n5_eq (G : KT2 R) (σ : GS) (h : Heap) : KC k 62 c5 σ h (fun x σ h => G x (σ 0) (σ 2) h) = n5 k G (σ 0) (σ 2) h := (kseq (a := c22) (b := c6) rfl (fun σ h => n6_eq k G σ h)).trans (by kernel_rfl)
@[simp] def n1 (G : KT1 R) (v0 v2 : GV) (h : Heap) : Option R := n5 k (fun x v0 v2 h => kx x (n2 k G v0 h) (G x v2 h)) v0 v2 h
theorem n1_eq (G : KT1 R) (σ : GS) (h : Heap) : KC k 62 c1 σ h (fun x σ h => G x (σ 2) h) = n1 k G (σ 0) (σ 2) h := (kseq (b := c2) rfl (fun σ h => n2_eq k G σ h)).trans (n5_eq k (fun x v0 v2 h => kx x (n2 k G v0 h) (G x v2 h)) σ h)
noncomputable def c23 : Code := cL c0
@[simp] def n0 (G : KT1 R) (v0 : GV) (h : Heap) : Option R := n1 k G v0 (.bool false) h
theorem n0_eq (G : KT1 R) (σ : GS) (h : Heap) : KC k 62 c0 σ h (fun x σ h => G x (σ 2) h) = n0 k G (σ 0) h := (kseq (a := c23) (b := c1) rfl (fun σ h => n1_eq k G σ h)).trans (by kernel_rfl)
def run {R : Type} (k : Nat) (a0 : GV) (h : Heap) (fin : GV → Heap → Option R) : Option R := n0 k (fun x v2 h => kend x (fin v2 h)) a0 h
theorem run_eq {R : Type} (k : Nat) (a0 : GV) (h : Heap) (fin : GV → Heap → Option R) : kfun PP cfg NN HH k fn.impl_RowOk [a0] h fin = run k a0 h fin := (kfun_eq (nt := 62) (c := c0) (show PP.funcs[fn.impl_RowOk]? = some Try.f271 by kernel_rfl) (by kernel_rfl) (by kernel_rfl) (fun x σ h => by cases x <;> kernel_rfl)).trans (n0_eq k (fun x v2 h => kend x (fin v2 h)) _ h)
theorem gives {k : Nat} {a0 : GV} {v : GV} (e : run k a0 [] finN = some v) : NN fn.impl_RowOk [a0] = some v := nω_of (by kernel_rfl) ((run_eq k a0 [] finN).trans e)
end S.impl_RowOk
/-! spec_RowOk -/
namespace S.spec_RowOk
noncomputable def c0 : Code := bodyOf Try.f266
noncomputable def c1 : Code := cR c0
noncomputable def c2 : Code := cR c1
noncomputable def c3 : Code := cR c2
noncomputable def c4 : Code := cR c3
@[simp] def n4 {R : Type} (k : Nat) (G : KT1 R) (h : Heap) : Option R := G .ret (.bool true) h
theorem n4_eq (G : KT1 R) (σ : GS) (h : Heap) : KC k 85 c4 σ h (fun x σ h => G x (σ 2) h) = n4 k G h := by kernel_rfl
noncomputable def c5 : Code := cL c3
noncomputable def c6 : Code := cR c5
noncomputable def c7 : Code := cL c6
noncomputable def c8 : Code := cL c7
noncomputable def c9 : Code := cR c8
noncomputable def c10 : Code := cR c9
@[simp] def n10 {R : Type} (k : Nat) (G : KT4 R) (v0 v2 v3 v4 : GV) (h : Heap) : Option R := (kbin .add v4 (.int .i64 1)).bind fun v18 => G .nrm v0 v2 v3 v18 h
theorem n10_eq (G : KT4 R) (σ : GS) (h : Heap) : KC k 85 c10 σ h (fun x σ h => G x (σ 0) (σ 2) (σ 3) (σ 4) h) = n10 k G (σ 0) (σ 2) (σ 3) (σ 4) h := by kernel_rfl
noncomputable def c11 : Code := cL c9
noncomputable def c12 : Code := cL c11
noncomputable def c13 : Code := cR c12
noncomputable def c14 : Code := cR c13
noncomputable def c15 : Code := cR c14
noncomputable def c16 : Code := cL c15
noncomputable def c17 : Code := cR c16
noncomputable def c18 : Code := cL c17
@[simp] def n18 {R : Type} (k : Nat) (G : KT4 R) (v0 v2 v3 v4 v5 : GV) (h : Heap) : Option R := (kfa 0 v5).bind fun v31 => (kload1 h v31).bind fun v32 => (kN NN fn.spec_Width [v32] h).bind fun v33 => (kbin .neq v33 (.int .i64 1)).bind fun v34 => kcond v34 (G .ret v0 (.bool false) v3 v4 h) (G .nrm v0 v2 v3 v4 h)
theorem n18_eq (G : KT4 R) (σ : GS) (h : Heap) : KC k 85 c18 σ h (fun x σ h => G x (σ 0) (σ 2) (σ 3) (σ 4) h) = n18 k G (σ 0) (σ 2) (σ 3) (σ 4) (σ 5) h := by kernel_rfl
noncomputable def c19 : Code := cR c17
noncomputable def c20 : Code := cR c19
noncomputable def c21 : Code := cL c20
noncomputable def c22 : Code := cR c21
@[simp] def n22 {R : Type} (k : Nat) (G : KT4 R) (v0 v2 v3 v4 v66 : GV) (h : Heap) : Option R := kcond v66 (G .ret v0 (.bool false) v3 v4 h) (G .nrm v0 v2 v3 v4 h)
theorem n22_eq (G : KT4 R) (σ : GS) (h : Heap) : KC k 85 c22 σ h (fun x σ h => G x (σ 0) (σ 2) (σ 3) (σ 4) h) = n22 k G (σ 0) (σ 2) (σ 3) (σ 4) (σ 66) h := by kernel_rfl
noncomputable def c23 : Code := cL c21
noncomputable def o23 : Array Oper := cO c23
@[simp] def g23_6 {R : Type} (k : Nat) (G : KT5 R) (v0 v2 v3 v4 v56 v65 : GV) (h : Heap) : Option R := (kpick v56 (.bool true) v65).bind fun v66 => G .nrm v0 v2 v3 v4 v66 h
theorem g23_6_eq (G : KT5 R) (σ : GS) (h : Heap) : kgroups PP cfg NN HH 85 o23 [(none, [29])] σ h (fun σ h => G .nrm (σ 0) (σ 2) (σ 3) (σ 4) (σ 66) h) = g23_6 k G (σ 0) (σ 2) (σ 3) (σ 4) (σ 56) (σ 65) h := by kernel_rfl
@[simp] def g23_5 (G : KT5 R) (v0 v2 v3 v4 v5 v56 : GV) (h : Heap) : Option R := bif tr false v56 then (kbin .add v4 (.int .i64 1)).bind fun v59 => (kia 7 v0 v59).bind fun v60 => (kfa 1 v60).bind fun v61 => (kloadA 5 h v61).bind fun v62 => (kfa 1 v5).bind fun v63 => (kloadA 5 h v63).bind fun v64 => (keqS PP .neq ty.impl_Style v62 v64).bind fun v65 => g23_6 k G v0 v2 v3 v4 v56 v65 h else g23_6 k G v0 v2 v3 v4 v56 .un h
theorem g23_5_eq (G : KT5 R) (σ : GS) (h : Heap) : kgroups PP cfg NN HH 85 o23 [(some (19, false), [20, 21, 22, 23, 24, 25, 26, 27, 28]), (none, [29])] σ h (fun σ h => G .nrm (σ 0) (σ 2) (σ 3) (σ 4) (σ 66) h) = g23_5 k G (σ 0) (σ 2) (σ 3) (σ 4) (σ 5) (σ 56) h := (kgroups_cons (fun σ h => g23_6_eq k G σ h)).trans (by kernel_rfl)
@[simp] def g23_4 (G : KT5 R) (v0 v2 v3 v4 v5 v47 v54 : GV) (h : Heap) : Option R := (kpick v47 (.bool true) v54).bind fun v55 => g23_5 k G v0 v2 v3 v4 v5 v55 h
theorem g23_4_eq (G : KT5 R) (σ : GS) (h : Heap) : kgroups PP cfg NN HH 85 o23 [(none, [18, 19]), (some (19, false), [20, 21, 22, 23, 24, 25, 26, 27, 28]), (none, [29])] σ h (fun σ h => G .nrm (σ 0) (σ 2) (σ 3) (σ 4) (σ 66) h) = g23_4 k G (σ 0) (σ 2) (σ 3) (σ 4) (σ 5) (σ 47) (σ 54) h := (kgroups_cons (fun σ h => g23_5_eq k G σ h)).trans (by kernel_rfl)
@[simp] def g23_3 (G : KT5 R) (v0 v2 v3 v4 v5 v47 : GV) (h : Heap) : Option R := bif tr false v47 then (kbin .add v4 (.int .i64 1)).bind fun v50 => (kia 7 v0 v50).bind fun v51 => (kfa 6 v51).bind fun v52 => (kload1 h v52).bind fun v53 => (kbin .neq v53 (.int .i64 2)).bind fun v54 => g23_4 k G v0 v2 v3 v4 v5 v47 v54 h else g23_4 k G v0 v2 v3 v4 v5 v47 .un h
theorem g23_3_eq (G : KT5 R) (σ : GS) (h : Heap) : kgroups PP cfg NN HH 85 o23 [(some (10, false), [11, 12, 13, 14, 15, 16, 17]), (none, [18, 19]), (some (19, false), [20, 21, 22, 23, 24, 25, 26, 27, 28]), (none, [29])] σ h (fun σ h => G .nrm (σ 0) (σ 2) (σ 3) (σ 4) (σ 66) h) = g23_3 k G (σ 0) (σ 2) (σ 3) (σ 4) (σ 5) (σ 47) h := (kgroups_cons (fun σ h => g23_4_eq k G σ h)).trans (by kernel_rfl)
@[simp] def g23_2 (G : KT5 R) (v0 v2 v3 v4 v5 v41 v45 : GV) (h : Heap) : Option R := (kpick v41 (.bool true) v45).bind fun v46 => g23_3 k G v0 v2 v3 v4 v5 v46 h
theorem g23_2_eq (G : KT5 R) (σ : GS) (h : Heap) : kgroups PP cfg NN HH 85 o23 [(none, [9, 10]), (some (10, false), [11, 12, 13, 14, 15, 16, 17]), (none, [18, 19]), (some (19, false), [20, 21, 22, 23, 24, 25, 26, 27, 28]), (none, [29])] σ h (fun σ h => G .nrm (σ 0) (σ 2) (σ 3) (σ 4) (σ 66) h) = g23_2 k G (σ 0) (σ 2) (σ 3) (σ 4) (σ 5) (σ 41) (σ 45) h := (kgroups_cons (fun σ h => g23_3_eq k G σ h)).trans (by kernel_rfl)
@[simp] def g23_1 (G : KT5 R) (v0 v2 v3 v4 v5 v41 : GV) (h : Heap) : Option R := bif tr false v41 then (kbin .add v4 (.int .i64 1)).bind fun v43 => (kbin .eql v43 v3).bind fun v45 => g23_2 k G v0 v2 v3 v4 v5 v41 v45 h else g23_2 k G v0 v2 v3 v4 v5 v41 .un h
theorem g23_1_eq (G : KT5 R) (σ : GS) (h : Heap) : kgroups PP cfg NN HH 85 o23 [(some (4, false), [5, 6, 7, 8]), (none, [9, 10]), (some (10, false), [11, 12, 13, 14, 15, 16, 17]), (none, [18, 19]), (some (19, false), [20, 21, 22, 23, 24, 25, 26, 27, 28]), (none, [29])] σ h (fun σ h => G .nrm (σ 0) (σ 2) (σ 3) (σ 4) (σ 66) h) = g23_1 k G (σ 0) (σ 2) (σ 3) (σ 4) (σ 5) (σ 41) h := (kgroups_cons (fun σ h => g23_2_eq k G σ h)).trans (by kernel_rfl)
@[simp] def g23_0 (G : KT5 R) (v0 v2 v3 v4 v5 : GV) (h : Heap) : Option R := (kfa 0 v5).bind fun v37 => (kload1 h v37).bind fun v38 => (kN NN fn.spec_Width [v38] h).bind fun v39 => (kbin .neq v39 (.int .i64 2)).bind fun v40 => g23_1 k G v0 v2 v3 v4 v5 v40 h
theorem g23_0_eq (G : KT5 R) (σ : GS) (h : Heap) : kgroups PP cfg NN HH 85 o23 [(none, [0, 1, 2, 3, 4]), (some (4, false), [5, 6, 7, 8]), (none, [9, 10]), (some (10, false), [11, 12, 13, 14, 15, 16, 17]), (none, [18, 19]), (some (19, false), [20, 21, 22, 23, 24, 25, 26, 27, 28]), (none, [29])] σ h (fun σ h => G .nrm (σ 0) (σ 2) (σ 3) (σ 4) (σ 66) h) = g23_0 k G (σ 0) (σ 2) (σ 3) (σ 4) (σ 5) h := (kgroups_cons (fun σ h => g23_1_eq k G σ h)).trans (by kernel_rfl)
@[simp] def n23 (G : KT5 R) (v0 v2 v3 v4 v5 : GV) (h : Heap) : Option R := g23_0 k G v0 v2 v3 v4 v5 h
theorem n23_eq (G : KT5 R) (σ : GS) (h : Heap) : KC k 85 c23 σ h (fun x σ h => G x (σ 0) (σ 2) (σ 3) (σ 4) (σ 66) h) = n23 k G (σ 0) (σ 2) (σ 3) (σ 4) (σ 5) h := (kregion_eq (id := 16) (draw := true) (ops := o23) (gs := [(none, [0, 1, 2, 3, 4]), (some (4, false), [5, 6, 7, 8]), (none, [9, 10]), (some (10, false), [11, 12, 13, 14, 15, 16, 17]), (none, [18, 19]), (some (19, false), [20, 21, 22, 23, 24, 25, 26, 27, 28]), (none, [29])]) (by kernel_rfl) (by kernel_rfl) (by kernel_rfl)).trans (g23_0_eq k G σ h)
@[simp] def n21 (G : KT4 R) (v0 v2 v3 v4 v5 : GV) (h : Heap) : Option R := n23 k (fun x v0 v2 v3 v4 v66 h => kx x (n22 k G v0 v2 v3 v4 v66 h) (G x v0 v2 v3 v4 h)) v0 v2 v3 v4 v5 h
theorem n21_eq (G : KT4 R) (σ : GS) (h : Heap) : KC k 85 c21 σ h (fun x σ h => G x (σ 0) (σ 2) (σ 3) (σ 4) h) = n21 k G (σ 0) (σ 2) (σ 3) (σ 4) (σ 5) h := (kseq (b := c22) rfl (fun σ h => n22_eq k G σ h)).trans (n23_eq k (fun x v0 v2 v3 v4 v66 h => kx x (n22 k G v0 v2 v3 v4 v66 h) (G x v0 v2 v3 v4 h)) σ h)
noncomputable def c24 : Code := cR c20
noncomputable def c25 : Code := cR c24
noncomputable def c26 : Code := cL c25
noncomputable def c27 : Code := cR c26
@[simp] def n27 {R : Type} (k : Nat) (G : KT4 R) (v0 v2 v3 v4 v84 : GV) (h : Heap) : Option R := kcond v84 (G .ret v0 (.bool false) v3 v4 h) (G .nrm v0 v2 v3 v4 h)
theorem n27_eq (G : KT4 R) (σ : GS) (h : Heap) : KC k 85 c27 σ h (fun x σ h => G x (σ 0) (σ 2) (σ 3) (σ 4) h) = n27 k G (σ 0) (σ 2) (σ 3) (σ 4) (σ 84) h := by kernel_rfl
noncomputable def c28 : Code := cL c26
noncomputable def o28 : Array Oper := cO c28
@[simp] def g28_4 {R : Type} (k : Nat) (G : KT5 R) (v0 v2 v3 v4 v76 v83 : GV) (h : Heap) : Option R := (kpick v76 (.bool true) v83).bind fun v84 => G .nrm v0 v2 v3 v4 v84 h
theorem g28_4_eq (G : KT5 R) (σ : GS) (h : Heap) : kgroups PP cfg NN HH 85 o28 [(none, [15])] σ h (fun σ h => G .nrm (σ 0) (σ 2) (σ 3) (σ 4) (σ 84) h) = g28_4 k G (σ 0) (σ 2) (σ 3) (σ 4) (σ 76) (σ 83) h := by kernel_rfl
@[simp] def g28_3 (G : KT5 R) (v0 v2 v3 v4 v76 : GV) (h : Heap) : Option R := bif tr false v76 then (kbin .sub v4 (.int .i64 1)).bind fun v79 => (kia 7 v0 v79).bind fun v80 => (kfa 6 v80).bind fun v81 => (kload1 h v81).bind fun v82 => (kbin .neq v82 (.int .i64 1)).bind fun v83 => g28_4 k G v0 v2 v3 v4 v76 v83 h else g28_4 k G v0 v2 v3 v4 v76 .un h
theorem g28_3_eq (G : KT5 R) (σ : GS) (h : Heap) : kgroups PP cfg NN HH 85 o28 [(some (7, false), [8, 9, 10, 11, 12, 13, 14]), (none, [15])] σ h (fun σ h => G .nrm (σ 0) (σ 2) (σ 3) (σ 4) (σ 84) h) = g28_3 k G (σ 0) (σ 2) (σ 3) (σ 4) (σ 76) h := (kgroups_cons (fun σ h => g28_4_eq k G σ h)).trans (by kernel_rfl)
@[simp] def g28_2 (G : KT5 R) (v0 v2 v3 v4 v72 v74 : GV) (h : Heap) : Option R := (kpick v72 (.bool true) v74).bind fun v75 => g28_3 k G v0 v2 v3 v4 v75 h
theorem g28_2_eq (G : KT5 R) (σ : GS) (h : Heap) : kgroups PP cfg NN HH 85 o28 [(none, [6, 7]), (some (7, false), [8, 9, 10, 11, 12, 13, 14]), (none, [15])] σ h (fun σ h => G .nrm (σ 0) (σ 2) (σ 3) (σ 4) (σ 84) h) = g28_2 k G (σ 0) (σ 2) (σ 3) (σ 4) (σ 72) (σ 74) h := (kgroups_cons (fun σ h => g28_3_eq k G σ h)).trans (by kernel_rfl)
@[simp] def g28_1 (G : KT5 R) (v0 v2 v3 v4 v72 : GV) (h : Heap) : Option R := bif tr false v72 then (kbin .eql v4 (.int .i64 0)).bind fun v74 => g28_2 k G v0 v2 v3 v4 v72 v74 h else g28_2 k G v0 v2 v3 v4 v72 .un h
theorem g28_1_eq (G : KT5 R) (σ : GS) (h : Heap) : kgroups PP cfg NN HH 85 o28 [(some (3, false), [4, 5]), (none, [6, 7]), (some (7, false), [8, 9, 10, 11, 12, 13, 14]), (none, [15])] σ h (fun σ h => G .nrm (σ 0) (σ 2) (σ 3) (σ 4) (σ 84) h) = g28_1 k G (σ 0) (σ 2) (σ 3) (σ 4) (σ 72) h := (kgroups_cons (fun σ h => g28_2_eq k G σ h)).trans (by kernel_rfl)
@[simp] def g28_0 (G : KT5 R) (v0 v2 v3 v4 v5 : GV) (h : Heap) : Option R := (kfa 0 v5).bind fun v69 => (kload1 h v69).bind fun v70 => (kbin .neq v70 (.int .i64 0)).bind fun v71 => g28_1 k G v0 v2 v3 v4 v71 h
theorem g28_0_eq (G : KT5 R) (σ : GS) (h : Heap) : kgroups PP cfg NN HH 85 o28 [(none, [0, 1, 2, 3]), (some (3, false), [4, 5]), (none, [6, 7]), (some (7, false), [8, 9, 10, 11, 12, 13, 14]), (none, [15])] σ h (fun σ h => G .nrm (σ 0) (σ 2) (σ 3) (σ 4) (σ 84) h) = g28_0 k G (σ 0) (σ 2) (σ 3) (σ 4) (σ 5) h := (kgroups_cons (fun σ h => g28_1_eq k G σ h)).trans (by kernel_rfl)
@[simp] def n28 (G : KT5 R) (v0 v2 v3 v4 v5 : GV) (h : Heap) : Option R := g28_0 k G v0 v2 v3 v4 v5 h
theorem n28_eq (G : KT5 R) (σ : GS) (h : Heap) : KC k 85 c28 σ h (fun x σ h => G x (σ 0) (σ 2) (σ 3) (σ 4) (σ 84) h) = n28 k G (σ 0) (σ 2) (σ 3) (σ 4) (σ 5) h := (kregion_eq (id := 19) (draw := false) (ops := o28) (gs := [(none, [0, 1, 2, 3]), (some (3, false), [4, 5]), (none, [6, 7]), (some (7, false), [8, 9, 10, 11, 12, 13, 14]), (none, [15])]) (by kernel_rfl) (by kernel_rfl) (by kernel_rfl)).trans (g28_0_eq k G σ h)
@[simp] def n26 (G : KT4 R) (v0 v2 v3 v4 v5 : GV) (h : Heap) : Option R := n28 k (fun x v0 v2 v3 v4 v84 h => kx x (n27 k G v0 v2 v3 v4 v84 h) (G x v0 v2 v3 v4 h)) v0 v2 v3 v4 v5 h
theorem n26_eq (G : KT4 R) (σ : GS) (h : Heap) : KC k 85 c26 σ h (fun x σ h => G x (σ 0) (σ 2) (σ 3) (σ 4) h) = n26 k G (σ 0) (σ 2) (σ 3) (σ 4) (σ 5) h := (kseq (b := c27) rfl (fun σ h => n27_eq k G σ h)).trans (n28_eq k (fun x v0 v2 v3 v4 v84 h => kx x (n27 k G v0 v2 v3 v4 v84 h) (G x v0 v2 v3 v4 h)) σ h)
noncomputable def c29 : Code := cR c25
@[simp] def n29 {R : Type} (k : Nat) (G : KT4 R) (v0 v3 v4 : GV) (h : Heap) : Option R := G .ret v0 (.bool false) v3 v4 h
theorem n29_eq (G : KT4 R) (σ : GS) (h : Heap) : KC k 85 c29 σ h (fun x σ h => G x (σ 0) (σ 2) (σ 3) (σ 4) h) = n29 k G (σ 0) (σ 3) (σ 4) h := by kernel_rfl
@[simp] def n25 (G : KT4 R) (v0 v2 v3 v4 v5 v67 : GV) (h : Heap) : Option R := kcond v67 (n26 k G v0 v2 v3 v4 v5 h) (n29 k G v0 v3 v4 h)
theorem n25_eq (G : KT4 R) (σ : GS) (h : Heap) : KC k 85 c25 σ h (fun x σ h => G x (σ 0) (σ 2) (σ 3) (σ 4) h) = n25 k G (σ 0) (σ 2) (σ 3) (σ 4) (σ 5) (σ 67) h := (kcond_eq (a := c26) (b := c29) rfl (by rfl)).trans (congr (congrArg (kcond (σ 67)) (n26_eq k G σ h)) (n29_eq k G σ h))
noncomputable def c30 : Code := cL c24
@[simp] def n24 (G : KT4 R) (v0 v2 v3 v4 v5 v28 : GV) (h : Heap) : Option R := (kbin .eql v28 (.int .i64 2)).bind fun v68 => n25 k G v0 v2 v3 v4 v5 v68 h
theorem n24_eq (G : KT4 R) (σ : GS) (h : Heap) : KC k 85 c24 σ h (fun x σ h => G x (σ 0) (σ 2) (σ 3) (σ 4) h) = n24 k G (σ 0) (σ 2) (σ 3) (σ 4) (σ 5) (σ 28) h := (kseq (a := c30) (b := c25) rfl (fun σ h => n25_eq k G σ h)).trans (by kernel_rfl)
@[simp] def n20 (G : KT4 R) (v0 v2 v3 v4 v5 v28 v35 : GV) (h : Heap) : Option R := kcond v35 (n21 k G v0 v2 v3 v4 v5 h) (n24 k G v0 v2 v3 v4 v5 v28 h)
theorem n20_eq (G : KT4 R) (σ : GS) (h : Heap) : KC k 85 c20 σ h (fun x σ h => G x (σ 0) (σ 2) (σ 3) (σ 4) h) = n20 k G (σ 0) (σ 2) (σ 3) (σ 4) (σ 5) (σ 28) (σ 35) h := (kcond_eq (a := c21) (b := c24) rfl (by rfl)).trans (congr (congrArg (kcond (σ 35)) (n21_eq k G σ h)) (n24_eq k G σ h))
noncomputable def c31 : Code := cL c19
@[simp] def n19 (G : KT4 R) (v0 v2 v3 v4 v5 v28 : GV) (h : Heap) : Option R := (kbin .eql v28 (.int .i64 1)).bind fun v36 => n20 k G v0 v2 v3 v4 v5 v28 v36 h
theorem n19_eq (G : KT4 R) (σ : GS) (h : Heap) : KC k 85 c19 σ h (fun x σ h => G x (σ 0) (σ 2) (σ 3) (σ 4) h) = n19 k G (σ 0) (σ 2) (σ 3) (σ 4) (σ 5) (σ 28) h := (kseq (a := c31) (b := c20) rfl (fun σ h => n20_eq k G σ h)).trans (by kernel_rfl)
@[simp] def n17 (G : KT4 R) (v0 v2 v3 v4 v5 v28 v29 : GV) (h : Heap) : Option R := kcond v29 (n18 k G v0 v2 v3 v4 v5 h) (n19 k G v0 v2 v3 v4 v5 v28 h)
theorem n17_eq (G : KT4 R) (σ : GS) (h : Heap) : KC k 85 c17 σ h (fun x σ h => G x (σ 0) (σ 2) (σ 3) (σ 4) h) = n17 k G (σ 0) (σ 2) (σ 3) (σ 4) (σ 5) (σ 28) (σ 29) h := (kcond_eq (a := c18) (b := c19) rfl (by rfl)).trans (congr (congrArg (kcond (σ 29)) (n18_eq k G σ h)) (n19_eq k G σ h))
noncomputable def c32 : Code := cL c16
@[simp] def n16 (G : KT4 R) (v0 v2 v3 v4 v5 v28 : GV) (h : Heap) : Option R := (kbin .eql v28 (.int .i64 0)).bind fun v30 => n17 k G v0 v2 v3 v4 v5 v28 v30 h
theorem n16_eq (G : KT4 R) (σ : GS) (h : Heap) : KC k 85 c16 σ h (fun x σ h => G x (σ 0) (σ 2) (σ 3) (σ 4) h) = n16 k G (σ 0) (σ 2) (σ 3) (σ 4) (σ 5) (σ 28) h := (kseq (a := c32) (b := c17) rfl (fun σ h => n17_eq k G σ h)).trans (by kernel_rfl)
@[simp] def n15 (G : KT4 R) (v0 v2 v3 v4 v5 v28 : GV) (h : Heap) : Option R := n16 k (fun x v0 v2 v3 v4 h => kb 2 x fun x => G x v0 v2 v3 v4 h) v0 v2 v3 v4 v5 v28 h
theorem n15_eq (G : KT4 R) (σ : GS) (h : Heap) : KC k 85 c15 σ h (fun x σ h => G x (σ 0) (σ 2) (σ 3) (σ 4) h) = n15 k G (σ 0) (σ 2) (σ 3) (σ 4) (σ 5) (σ 28) h := (kblock_eq (a := c16) rfl).trans (n16_eq k (fun x v0 v2 v3 v4 h => kb 2 x fun x => G x v0 v2 v3 v4 h) σ h)
noncomputable def c33 : Code := cL c14
@[simp] def n14 (G : KT4 R) (v0 v2 v3 v4 v5 : GV) (h : Heap) : Option R := (kfa 6 v5).bind fun v27 => (kload1 h v27).bind fun v28 => n15 k G v0 v2 v3 v4 v5 v28 h
theorem n14_eq (G : KT4 R) (σ : GS) (h : Heap) : KC k 85 c14 σ h (fun x σ h => G x (σ 0) (σ 2) (σ 3) (σ 4) h) = n14 k G (σ 0) (σ 2) (σ 3) (σ 4) (σ 5) h := (kseq (a := c33) (b := c15) rfl (fun σ h => n15_eq k G σ h)).trans (by kernel_rfl)
noncomputable def c34 : Code := cL c13
@[simp] def n13 (G : KT4 R) (v0 v2 v3 v4 v5 : GV) (h : Heap) : Option R := (kfa 1 v5).bind fun v23 => (kloadA 5 h v23).bind fun v24 => (kN NN fn.spec_StyleOk [v24] h).bind fun v25 => (kun .not v25).bind fun v26 => kcond v26 (G .ret v0 (.bool false) v3 v4 h) (n14 k G v0 v2 v3 v4 v5 h)
theorem n13_eq (G : KT4 R) (σ : GS) (h : Heap) : KC k 85 c13 σ h (fun x σ h => G x (σ 0) (σ 2) (σ 3) (σ 4) h) = n13 k G (σ 0) (σ 2) (σ 3) (σ 4) (σ 5) h := (kseq (a := c34) (b := c14) rfl (fun σ h => n14_eq k G σ h)).trans (by kernel_rfl)
noncomputable def c35 : Code := cL c12
@[simp] def n12 (G : KT4 R) (v0 v2 v3 v4 : GV) (h : Heap) : Option R := (kia 7 v0 v4).bind fun v21 => (kloadA 7 h v21).bind fun v22 => kalloc [(.int .i64 0), (.int .i64 0), (.int .i64 0), (.bool false), (.bool false), (.bool false), (.int .i64 0)] h fun v5 h => (kstore 7 h v5 v22).bind fun h => n13 k G v0 v2 v3 v4 v5 h
theorem n12_eq (G : KT4 R) (σ : GS) (h : Heap) : KC k 85 c12 σ h (fun x σ h => G x (σ 0) (σ 2) (σ 3) (σ 4) h) = n12 k G (σ 0) (σ 2) (σ 3) (σ 4) h := (kseq (a := c35) (b := c13) rfl (fun σ h => n13_eq k G σ h)).trans (by kernel_rfl)
@[simp] def n11 (G : KT4 R) (v0 v2 v3 v4 : GV) (h : Heap) : Option R := n12 k (fun x v0 v2 v3 v4 h => kb 1 x fun x => G x v0 v2 v3 v4 h) v0 v2 v3 v4 h
theorem n11_eq (G : KT4 R) (σ : GS) (h : Heap) : KC k 85 c11 σ h (fun x σ h => G x (σ 0) (σ 2) (σ 3) (σ 4) h) = n11 k G (σ 0) (σ 2) (σ 3) (σ 4) h := (kblock_eq (a := c12) rfl).trans (n12_eq k (fun x v0 v2 v3 v4 h => kb 1 x fun x => G x v0 v2 v3 v4 h) σ h)
@[simp] def n9 (G : KT4 R) (v0 v2 v3 v4 : GV) (h : Heap) : Option R := n11 k (fun x v0 v2 v3 v4 h => kx x (n10 k G v0 v2 v3 v4 h) (G x v0 v2 v3 v4 h)) v0 v2 v3 v4 h
theorem n9_eq (G : KT4 R) (σ : GS) (h : Heap) : KC k 85 c9 σ h (fun x σ h => G x (σ 0) (σ 2) (σ 3) (σ 4) h) = n9 k G (σ 0) (σ 2) (σ 3) (σ 4) h := (kseq (b := c10) rfl (fun σ h => n10_eq k G σ h)).trans (n11_eq k (fun x v0 v2 v3 v4 h => kx x (n10 k G v0 v2 v3 v4 h) (G x v0 v2 v3 v4 h)) σ h)
noncomputable def c36 : Code := cL c8
@[simp] def n8 (G : KT4 R) (v0 v2 v3 v4 : GV) (h : Heap) : Option R := (kbin .lss v4 v3).bind fun v16 => kcond v16 (n9 k G v0 v2 v3 v4 h) (G (.ext 0) v0 v2 v3 v4 h)
theorem n8_eq (G : KT4 R) (σ : GS) (h : Heap) : KC k 85 c8 σ h (fun x σ h => G x (σ 0) (σ 2) (σ 3) (σ 4) h) = n8 k G (σ 0) (σ 2) (σ 3) (σ 4) h := (kseq (a := c36) (b := c9) rfl (fun σ h => n9_eq k G σ h)).trans (by kernel_rfl)
def l7 {R : Type} (k : Nat) (G : KT1 R) : Nat → GV → GV → GV → GV → Heap → Option R
  | 0, _, _, _, _, _ => none
  | r + 1, v0, v2, v3, v4, h => n8 k (fun x v0 v2 v3 v4 h => kx x (l7 k G r v0 v2 v3 v4 h) (G x v2 h)) v0 v2 v3 v4 h
theorem l7_eq {R : Type} (k : Nat) (G : KT1 R) : ∀ (r : Nat) (σ : GS) (h : Heap), kloop (fun σ h K => KC k 85 c8 σ h K) r σ h (fun x σ h => G x (σ 2) h) = l7 k G r (σ 0) (σ 2) (σ 3) (σ 4) h
  | 0, _, _ => rfl
  | r + 1, σ, h => (kloop_eq (fun σ h => l7_eq k G r σ h)).trans (n8_eq k (fun x v0 v2 v3 v4 h => kx x (l7 k G r v0 v2 v3 v4 h) (G x v2 h)) σ h)
@[simp] def n7 (G : KT1 R) (v0 v2 v3 v4 : GV) (h : Heap) : Option R := l7 k G k v0 v2 v3 v4 h
theorem n7_eq (G : KT1 R) (σ : GS) (h : Heap) : KC k 85 c7 σ h (fun x σ h => G x (σ 2) h) = n7 k G (σ 0) (σ 2) (σ 3) (σ 4) h := (kloopc_eq (a := c8) rfl).trans (l7_eq k G k σ h)
@[simp] def n6 (G : KT1 R) (v0 v2 v3 v4 : GV) (h : Heap) : Option R := n7 k (fun x v2 h => kb 0 x fun x => G x v2 h) v0 v2 v3 v4 h
theorem n6_eq (G : KT1 R) (σ : GS) (h : Heap) : KC k 85 c6 σ h (fun x σ h => G x (σ 2) h) = n6 k G (σ 0) (σ 2) (σ 3) (σ 4) h := (kblock_eq (a := c7) rfl).trans (n7_eq k (fun x v2 h => kb 0 x fun x => G x v2 h) σ h)
noncomputable def c37 : Code := cL c5
@[simp] def n5 (G : KT1 R) (v0 v2 v3 : GV) (h : Heap) : Option R := n6 k G v0 v2 v3 (.int .i64 0) h
theorem n5_eq (G : KT1 R) (σ : GS) (h : Heap) : KC k 85 c5 σ h (fun x σ h => G x (σ 2) h) = n5 k G (σ 0) (σ 2) (σ 3) h := (kseq (a := c37) (b := c6) rfl (fun σ h => n6_eq k G σ h)).trans (by kernel_rfl)
@[simp] def n3 (G : KT1 R) (v0 v2 v3 : GV) (h : Heap) : Option R := n5 k (fun x v2 h => kx x (n4 k G h) (G x v2 h)) v0 v2 v3 h
theorem n3_eq (G : KT1 R) (σ : GS) (h : Heap) : KC k 85 c3 σ h (fun x σ h => G x (σ 2) h) = n3 k G (σ 0) (σ 2) (σ 3) h := (kseq (b := c4) rfl (fun σ h => n4_eq k G σ h)).trans (n5_eq k (fun x v2 h => kx x (n4 k G h) (G x v2 h)) σ h)
noncomputable def c38 : Code := cL c2
noncomputable def c39 : Code := cR c38
@[simp] def n39 {R : Type} (k : Nat) (G : KT3 R) (v0 v2 v3 v13 : GV) (h : Heap) : Option R := kcond v13 (G .ret v0 (.bool false) v3 h) (G .nrm v0 v2 v3 h)
theorem n39_eq (G : KT3 R) (σ : GS) (h : Heap) : KC k 85 c39 σ h (fun x σ h => G x (σ 0) (σ 2) (σ 3) h) = n39 k G (σ 0) (σ 2) (σ 3) (σ 13) h := by kernel_rfl
noncomputable def c40 : Code := cL c38
noncomputable def o40 : Array Oper := cO c40
@[simp] def g40_2 {R : Type} (k : Nat) (G : KT4 R) (v0 v2 v3 v10 v12 : GV) (h : Heap) : Option R := (kpick v10 (.bool true) v12).bind fun v13 => G .nrm v0 v2 v3 v13 h
theorem g40_2_eq (G : KT4 R) (σ : GS) (h : Heap) : kgroups PP cfg NN HH 85 o40 [(none, [5])] σ h (fun σ h => G .nrm (σ 0) (σ 2) (σ 3) (σ 13) h) = g40_2 k G (σ 0) (σ 2) (σ 3) (σ 10) (σ 12) h := by kernel_rfl
@[simp] def g40_1 (G : KT4 R) (v0 v2 v3 v10 : GV) (h : Heap) : Option R := bif tr false v10 then (kbin .gtr v3 (.int .i64 60)).bind fun v12 => g40_2 k G v0 v2 v3 v10 v12 h else g40_2 k G v0 v2 v3 v10 .un h
theorem g40_1_eq (G : KT4 R) (σ : GS) (h : Heap) : kgroups PP cfg NN HH 85 o40 [(some (2, false), [3, 4]), (none, [5])] σ h (fun σ h => G .nrm (σ 0) (σ 2) (σ 3) (σ 13) h) = g40_1 k G (σ 0) (σ 2) (σ 3) (σ 10) h := (kgroups_cons (fun σ h => g40_2_eq k G σ h)).trans (by kernel_rfl)
@[simp] def g40_0 (G : KT4 R) (v0 v2 v3 : GV) (h : Heap) : Option R := (kbin .lss v3 (.int .i64 1)).bind fun v9 => g40_1 k G v0 v2 v3 v9 h
theorem g40_0_eq (G : KT4 R) (σ : GS) (h : Heap) : kgroups PP cfg NN HH 85 o40 [(none, [0, 1, 2]), (some (2, false), [3, 4]), (none, [5])] σ h (fun σ h => G .nrm (σ 0) (σ 2) (σ 3) (σ 13) h) = g40_0 k G (σ 0) (σ 2) (σ 3) h := (kgroups_cons (fun σ h => g40_1_eq k G σ h)).trans (by kernel_rfl)
@[simp] def n40 (G : KT4 R) (v0 v2 v3 : GV) (h : Heap) : Option R := g40_0 k G v0 v2 v3 h
theorem n40_eq (G : KT4 R) (σ : GS) (h : Heap) : KC k 85 c40 σ h (fun x σ h => G x (σ 0) (σ 2) (σ 3) (σ 13) h) = n40 k G (σ 0) (σ 2) (σ 3) h := (kregion_eq (id := 2) (draw := false) (ops := o40) (gs := [(none, [0, 1, 2]), (some (2, false), [3, 4]), (none, [5])]) (by kernel_rfl) (by kernel_rfl) (by kernel_rfl)).trans (g40_0_eq k G σ h)
@[simp] def n38 (G : KT3 R) (v0 v2 v3 : GV) (h : Heap) : Option R := n40 k (fun x v0 v2 v3 v13 h => kx x (n39 k G v0 v2 v3 v13 h) (G x v0 v2 v3 h)) v0 v2 v3 h
theorem n38_eq (G : KT3 R) (σ : GS) (h : Heap) : KC k 85 c38 σ h (fun x σ h => G x (σ 0) (σ 2) (σ 3) h) = n38 k G (σ 0) (σ 2) (σ 3) h := (kseq (b := c39) rfl (fun σ h => n39_eq k G σ h)).trans (n40_eq k (fun x v0 v2 v3 v13 h => kx x (n39 k G v0 v2 v3 v13 h) (G x v0 v2 v3 h)) σ h)
@[simp] def n2 (G : KT1 R) (v0 v2 v3 : GV) (h : Heap) : Option R := n38 k (fun x v0 v2 v3 h => kx x (n3 k G v0 v2 v3 h) (G x v2 h)) v0 v2 v3 h
theorem n2_eq (G : KT1 R) (σ : GS) (h : Heap) : KC k 85 c2 σ h (fun x σ h => G x (σ 2) h) = n2 k G (σ 0) (σ 2) (σ 3) h := (kseq (b := c3) rfl (fun σ h => n3_eq k G σ h)).trans (n38_eq k (fun x v0 v2 v3 h => kx x (n3 k G v0 v2 v3 h) (G x v2 h)) σ h)
noncomputable def c41 : Code := cL c1
@[simp] def n1 (G : KT1 R) (v0 v2 : GV) (h : Heap) : Option R := (klen v0).bind fun v7 => n2 k G v0 v2 v7 h
theorem n1_eq (G : KT1 R) (σ : GS) (h : Heap) : KC k 85 c1 σ h (fun x σ h => G x (σ 2) h) = n1 k G (σ 0) (σ 2) h := (kseq (a := c41) (b := c2) rfl (fun σ h => n2_eq k G σ h)).trans (by kernel_rfl)
noncomputable def c42 : Code := cL c0
@[simp] def n0 (G : KT1 R) (v0 : GV) (h : Heap) : Option R := n1 k G v0 (.bool false) h
theorem n0_eq (G : KT1 R) (σ : GS) (h : Heap) : KC k 85 c0 σ h (fun x σ h => G x (σ 2) h) = n0 k G (σ 0) h := (kseq (a := c42) (b := c1) rfl (fun σ h => n1_eq k G σ h)).trans (by kernel_rfl)
def run {R : Type} (k : Nat) (a0 : GV) (h : Heap) (fin : GV → Heap → Option R) : Option R := n0 k (fun x v2 h => kend x (fin v2 h)) a0 h
theorem run_eq {R : Type} (k : Nat) (a0 : GV) (h : Heap) (fin : GV → Heap → Option R) : kfun PP cfg NN HH k fn.spec_RowOk [a0] h fin = run k a0 h fin := (kfun_eq (nt := 85) (c := c0) (show PP.funcs[fn.spec_RowOk]? = some Try.f266 by kernel_rfl) (by kernel_rfl) (by kernel_rfl) (fun x σ h => by cases x <;> kernel_rfl)).trans (n0_eq k (fun x v2 h => kend x (fin v2 h)) _ h)
theorem gives {k : Nat} {a0 : GV} {v : GV} (e : run k a0 [] finN = some v) : NN fn.spec_RowOk [a0] = some v := nω_of (by kernel_rfl) ((run_eq k a0 [] finN).trans e)
end S.spec_RowOk
/-! impl_GridOk -/
namespace S.impl_GridOk
noncomputable def c0 : Code := bodyOf Try.f232
noncomputable def c1 : Code := cR c0
noncomputable def c2 : Code := cR c1
@[simp] def n2 {R : Type} (k : Nat) (G : KT1 R) (v2 : GV) (h : Heap) : Option R := G .ret v2 h
theorem n2_eq (G : KT1 R) (σ : GS) (h : Heap) : KC k 19 c2 σ h (fun x σ h => G x (σ 2) h) = n2 k G (σ 2) h := by kernel_rfl
noncomputable def c3 : Code := cL c1
noncomputable def o3 : Array Oper := cO c3
@[simp] def g3_4 {R : Type} (k : Nat) (G : KT1 R) (v12 v17 : GV) (h : Heap) : Option R := (kpick v12 v17 (.bool false)).bind fun v18 => G .nrm v18 h
theorem g3_4_eq (G : KT1 R) (σ : GS) (h : Heap) : kgroups PP cfg NN HH 19 o3 [(none, [15, 16])] σ h (fun σ h => G .nrm (σ 2) h) = g3_4 k G (σ 12) (σ 17) h := by kernel_rfl
@[simp] def g3_3 (G : KT1 R) (v1 v12 : GV) (h : Heap) : Option R := bif tr true v12 then (kfa 1 v1).bind fun v13 => (kload1 h v13).bind fun v14 => (kN NN fn.slices_ContainsFunc_impl_Cell_impl_Cell [v14, (.fn fn.impl_GridOk_1 [v1])] h).bind fun v16 => (kun .not v16).bind fun v17 => g3_4 k G v12 v17 h else g3_4 k G v12 .un h
theorem g3_3_eq (G : KT1 R) (σ : GS) (h : Heap) : kgroups PP cfg NN HH 19 o3 [(some (9, true), [10, 11, 12, 13, 14]), (none, [15, 16])] σ h (fun σ h => G .nrm (σ 2) h) = g3_3 k G (σ 1) (σ 12) h := (kgroups_cons (fun σ h => g3_4_eq k G σ h)).trans (by kernel_rfl)
@[simp] def g3_2 (G : KT1 R) (v1 v6 v10 : GV) (h : Heap) : Option R := (kpick v6 v10 (.bool false)).bind fun v11 => g3_3 k G v1 v11 h
theorem g3_2_eq (G : KT1 R) (σ : GS) (h : Heap) : kgroups PP cfg NN HH 19 o3 [(none, [8, 9]), (some (9, true), [10, 11, 12, 13, 14]), (none, [15, 16])] σ h (fun σ h => G .nrm (σ 2) h) = g3_2 k G (σ 1) (σ 6) (σ 10) h := (kgroups_cons (fun σ h => g3_3_eq k G σ h)).trans (by kernel_rfl)
@[simp] def g3_1 (G : KT1 R) (v1 v6 : GV) (h : Heap) : Option R := bif tr true v6 then (kfa 1 v1).bind fun v7 => (kload1 h v7).bind fun v8 => (klen v8).bind fun v9 => (kN NN fn.impl_in [v9, (.int .i64 1), (.int .i64 30)] h).bind fun v10 => g3_2 k G v1 v6 v10 h else g3_2 k G v1 v6 .un h
theorem g3_1_eq (G : KT1 R) (σ : GS) (h : Heap) : kgroups PP cfg NN HH 19 o3 [(some (3, true), [4, 5, 6, 7]), (none, [8, 9]), (some (9, true), [10, 11, 12, 13, 14]), (none, [15, 16])] σ h (fun σ h => G .nrm (σ 2) h) = g3_1 k G (σ 1) (σ 6) h := (kgroups_cons (fun σ h => g3_2_eq k G σ h)).trans (by kernel_rfl)
@[simp] def g3_0 (G : KT1 R) (v1 : GV) (h : Heap) : Option R := (kfa 0 v1).bind fun v3 => (kload1 h v3).bind fun v4 => (kN NN fn.impl_in [v4, (.int .i64 1), (.int .i64 60)] h).bind fun v5 => g3_1 k G v1 v5 h
theorem g3_0_eq (G : KT1 R) (σ : GS) (h : Heap) : kgroups PP cfg NN HH 19 o3 [(none, [0, 1, 2, 3]), (some (3, true), [4, 5, 6, 7]), (none, [8, 9]), (some (9, true), [10, 11, 12, 13, 14]), (none, [15, 16])] σ h (fun σ h => G .nrm (σ 2) h) = g3_0 k G (σ 1) h := (kgroups_cons (fun σ h => g3_1_eq k G σ h)).trans (by kernel_rfl)
@[simp] def n3 (G : KT1 R) (v1 : GV) (h : Heap) : Option R := g3_0 k G v1 h
theorem n3_eq (G : KT1 R) (σ : GS) (h : Heap) : KC k 19 c3 σ h (fun x σ h => G x (σ 2) h) = n3 k G (σ 1) h := (kregion_eq (id := 1) (draw := false) (ops := o3) (gs := [(none, [0, 1, 2, 3]), (some (3, true), [4, 5, 6, 7]), (none, [8, 9]), (some (9, true), [10, 11, 12, 13, 14]), (none, [15, 16])]) (by kernel_rfl) (by kernel_rfl) (by kernel_rfl)).trans (g3_0_eq k G σ h)
@[simp] def n1 (G : KT1 R) (v1 : GV) (h : Heap) : Option R := n3 k (fun x v2 h => kx x (n2 k G v2 h) (G x v2 h)) v1 h
theorem n1_eq (G : KT1 R) (σ : GS) (h : Heap) : KC k 19 c1 σ h (fun x σ h => G x (σ 2) h) = n1 k G (σ 1) h := (kseq (b := c2) rfl (fun σ h => n2_eq k G σ h)).trans (n3_eq k (fun x v2 h => kx x (n2 k G v2 h) (G x v2 h)) σ h)
noncomputable def c4 : Code := cL c0
@[simp] def n0 (G : KT1 R) (v0 : GV) (h : Heap) : Option R := kbox v0 h fun v1 h => n1 k G v1 h
theorem n0_eq (G : KT1 R) (σ : GS) (h : Heap) : KC k 19 c0 σ h (fun x σ h => G x (σ 2) h) = n0 k G (σ 0) h := (kseq (a := c4) (b := c1) rfl (fun σ h => n1_eq k G σ h)).trans (by kernel_rfl)
def run {R : Type} (k : Nat) (a0 : GV) (h : Heap) (fin : GV → Heap → Option R) : Option R := n0 k (fun x v2 h => kend x (fin v2 h)) a0 h
theorem run_eq {R : Type} (k : Nat) (a0 : GV) (h : Heap) (fin : GV → Heap → Option R) : kfun PP cfg NN HH k fn.impl_GridOk [a0] h fin = run k a0 h fin := (kfun_eq (nt := 19) (c := c0) (show PP.funcs[fn.impl_GridOk]? = some Try.f232 by kernel_rfl) (by kernel_rfl) (by kernel_rfl) (fun x σ h => by cases x <;> kernel_rfl)).trans (n0_eq k (fun x v2 h => kend x (fin v2 h)) _ h)
theorem gives {k : Nat} {a0 : GV} {v : GV} (e : run k a0 [] finN = some v) : NN fn.impl_GridOk [a0] = some v := nω_of (by kernel_rfl) ((run_eq k a0 [] finN).trans e)
end S.impl_GridOk
/-! impl_GridOk_1 -/
namespace S.impl_GridOk_1
noncomputable def c0 : Code := bodyOf Try.f270
noncomputable def c1 : Code := cR c0
noncomputable def c2 : Code := cR c1
@[simp] def n2 {R : Type} (k : Nat) (G : KT1 R) (v3 : GV) (h : Heap) : Option R := G .ret v3 h
theorem n2_eq (G : KT1 R) (σ : GS) (h : Heap) : KC k 14 c2 σ h (fun x σ h => G x (σ 3) h) = n2 k G (σ 3) h := by kernel_rfl
noncomputable def c3 : Code := cL c1
noncomputable def o3 : Array Oper := cO c3
@[simp] def g3_2 {R : Type} (k : Nat) (G : KT1 R) (v9 v12 : GV) (h : Heap) : Option R := (kpick v9 (.bool true) v12).bind fun v13 => G .nrm v13 h
theorem g3_2_eq (G : KT1 R) (σ : GS) (h : Heap) : kgroups PP cfg NN HH 14 o3 [(none, [9, 10])] σ h (fun σ h => G .nrm (σ 3) h) = g3_2 k G (σ 9) (σ 12) h := by kernel_rfl
@[simp] def g3_1 (G : KT1 R) (v0 v9 : GV) (h : Heap) : Option R := bif tr false v9 then (kN NN fn.impl_RowOk [v0] h).bind fun v11 => (kun .not v11).bind fun v12 => g3_2 k G v9 v12 h else g3_2 k G v9 .un h
theorem g3_1_eq (G : KT1 R) (σ : GS) (h : Heap) : kgroups PP cfg NN HH 14 o3 [(some (5, false), [6, 7, 8]), (none, [9, 10])] σ h (fun σ h => G .nrm (σ 3) h) = g3_1 k G (σ 0) (σ 9) h := (kgroups_cons (fun σ h => g3_2_eq k G σ h)).trans (by kernel_rfl)
@[simp] def g3_0 (G : KT1 R) (v0 v1 : GV) (h : Heap) : Option R := (klen v0).bind fun v5 => (kfa 0 v1).bind fun v6 => (kload1 h v6).bind fun v7 => (kbin .neq v5 v7).bind fun v8 => g3_1 k G v0 v8 h
theorem g3_0_eq (G : KT1 R) (σ : GS) (h : Heap) : kgroups PP cfg NN HH 14 o3 [(none, [0, 1, 2, 3, 4, 5]), (some (5, false), [6, 7, 8]), (none, [9, 10])] σ h (fun σ h => G .nrm (σ 3) h) = g3_0 k G (σ 0) (σ 1) h := (kgroups_cons (fun σ h => g3_1_eq k G σ h)).trans (by kernel_rfl)
@[simp] def n3 (G : KT1 R) (v0 v1 : GV) (h : Heap) : Option R := g3_0 k G v0 v1 h
theorem n3_eq (G : KT1 R) (σ : GS) (h : Heap) : KC k 14 c3 σ h (fun x σ h => G x (σ 3) h) = n3 k G (σ 0) (σ 1) h := (kregion_eq (id := 1) (draw := false) (ops := o3) (gs := [(none, [0, 1, 2, 3, 4, 5]), (some (5, false), [6, 7, 8]), (none, [9, 10])]) (by kernel_rfl) (by kernel_rfl) (by kernel_rfl)).trans (g3_0_eq k G σ h)
@[simp] def n1 (G : KT1 R) (v0 v1 : GV) (h : Heap) : Option R := n3 k (fun x v3 h => kx x (n2 k G v3 h) (G x v3 h)) v0 v1 h
theorem n1_eq (G : KT1 R) (σ : GS) (h : Heap) : KC k 14 c1 σ h (fun x σ h => G x (σ 3) h) = n1 k G (σ 0) (σ 1) h := (kseq (b := c2) rfl (fun σ h => n2_eq k G σ h)).trans (n3_eq k (fun x v3 h => kx x (n2 k G v3 h) (G x v3 h)) σ h)
noncomputable def c4 : Code := cL c0
@[simp] def n0 (G : KT1 R) (v0 v1 : GV) (h : Heap) : Option R := n1 k G v0 v1 h
theorem n0_eq (G : KT1 R) (σ : GS) (h : Heap) : KC k 14 c0 σ h (fun x σ h => G x (σ 3) h) = n0 k G (σ 0) (σ 1) h := (kseq (a := c4) (b := c1) rfl (fun σ h => n1_eq k G σ h)).trans (by kernel_rfl)
def run {R : Type} (k : Nat) (a0 : GV) (a1 : GV) (h : Heap) (fin : GV → Heap → Option R) : Option R := n0 k (fun x v3 h => kend x (fin v3 h)) a0 a1 h
theorem run_eq {R : Type} (k : Nat) (a0 : GV) (a1 : GV) (h : Heap) (fin : GV → Heap → Option R) : kfun PP cfg NN HH k fn.impl_GridOk_1 [a0, a1] h fin = run k a0 a1 h fin := (kfun_eq (nt := 14) (c := c0) (show PP.funcs[fn.impl_GridOk_1]? = some Try.f270 by kernel_rfl) (by kernel_rfl) (by kernel_rfl) (fun x σ h => by cases x <;> kernel_rfl)).trans (n0_eq k (fun x v3 h => kend x (fin v3 h)) _ h)
theorem gives {k : Nat} {a0 : GV} {a1 : GV} {v : GV} (e : run k a0 a1 [] finN = some v) : NN fn.impl_GridOk_1 [a0, a1] = some v := nω_of (by kernel_rfl) ((run_eq k a0 a1 [] finN).trans e)
end S.impl_GridOk_1
/-! spec_GridOk -/
namespace S.spec_GridOk
noncomputable def c0 : Code := bodyOf Try.f228
noncomputable def c1 : Code := cR c0
noncomputable def c2 : Code := cR c1
noncomputable def c3 : Code := cR c2
@[simp] def n3 {R : Type} (k : Nat) (G : KT1 R) (h : Heap) : Option R := G .ret (.bool true) h
theorem n3_eq (G : KT1 R) (σ : GS) (h : Heap) : KC k 45 c3 σ h (fun x σ h => G x (σ 2) h) = n3 k G h := by kernel_rfl
noncomputable def c4 : Code := cL c2
noncomputable def c5 : Code := cR c4
noncomputable def c6 : Code := cL c5
noncomputable def c7 : Code := cL c6
noncomputable def c8 : Code := cR c7
noncomputable def c9 : Code := cR c8
@[simp] def n9 {R : Type} (k : Nat) (G : KT3 R) (v1 v2 v3 : GV) (h : Heap) : Option R := (kbin .add v3 (.int .i64 1)).bind fun v26 => G .nrm v1 v2 v26 h
theorem n9_eq (G : KT3 R) (σ : GS) (h : Heap) : KC k 45 c9 σ h (fun x σ h => G x (σ 1) (σ 2) (σ 3) h) = n9 k G (σ 1) (σ 2) (σ 3) h := by kernel_rfl
noncomputable def c10 : Code := cL c8
noncomputable def c11 : Code := cL c10
noncomputable def c12 : Code := cR c11
@[simp] def n12 {R : Type} (k : Nat) (G : KT3 R) (v1 v2 v3 v44 : GV) (h : Heap) : Option R := kcond v44 (G .ret v1 (.bool false) v3 h) (G .nrm v1 v2 v3 h)
theorem n12_eq (G : KT3 R) (σ : GS) (h : Heap) : KC k 45 c12 σ h (fun x σ h => G x (σ 1) (σ 2) (σ 3) h) = n12 k G (σ 1) (σ 2) (σ 3) (σ 44) h := by kernel_rfl
noncomputable def c13 : Code := cL c11
noncomputable def o13 : Array Oper := cO c13
@[simp] def g13_2 {R : Type} (k : Nat) (G : KT4 R) (v1 v2 v3 v36 v43 : GV) (h : Heap) : Option R := (kpick v36 (.bool true) v43).bind fun v44 => G .nrm v1 v2 v3 v44 h
theorem g13_2_eq (G : KT4 R) (σ : GS) (h : Heap) : kgroups PP cfg NN HH 45 o13 [(none, [17])] σ h (fun σ h => G .nrm (σ 1) (σ 2) (σ 3) (σ 44) h) = g13_2 k G (σ 1) (σ 2) (σ 3) (σ 36) (σ 43) h := by kernel_rfl
@[simp] def g13_1 (G : KT4 R) (v1 v2 v3 v36 : GV) (h : Heap) : Option R := bif tr false v36 then (kfa 1 v1).bind fun v37 => (kload1 h v37).bind fun v38 => (kia 1 v38 v3).bind fun v40 => (kload1 h v40).bind fun v41 => (kN NN fn.spec_RowOk [v41] h).bind fun v42 => (kun .not v42).bind fun v43 => g13_2 k G v1 v2 v3 v36 v43 h else g13_2 k G v1 v2 v3 v36 .un h
theorem g13_1_eq (G : KT4 R) (σ : GS) (h : Heap) : kgroups PP cfg NN HH 45 o13 [(some (9, false), [10, 11, 12, 13, 14, 15, 16]), (none, [17])] σ h (fun σ h => G .nrm (σ 1) (σ 2) (σ 3) (σ 44) h) = g13_1 k G (σ 1) (σ 2) (σ 3) (σ 36) h := (kgroups_cons (fun σ h => g13_2_eq k G σ h)).trans (by kernel_rfl)
@[simp] def g13_0 (G : KT4 R) (v1 v2 v3 : GV) (h : Heap) : Option R := (kfa 1 v1).bind fun v27 => (kload1 h v27).bind fun v28 => (kia 1 v28 v3).bind fun v30 => (kload1 h v30).bind fun v31 => (klen v31).bind fun v32 => (kfa 0 v1).bind fun v33 => (kload1 h v33).bind fun v34 => (kbin .neq v32 v34).bind fun v35 => g13_1 k G v1 v2 v3 v35 h
theorem g13_0_eq (G : KT4 R) (σ : GS) (h : Heap) : kgroups PP cfg NN HH 45 o13 [(none, [0, 1, 2, 3, 4, 5, 6, 7, 8, 9]), (some (9, false), [10, 11, 12, 13, 14, 15, 16]), (none, [17])] σ h (fun σ h => G .nrm (σ 1) (σ 2) (σ 3) (σ 44) h) = g13_0 k G (σ 1) (σ 2) (σ 3) h := (kgroups_cons (fun σ h => g13_1_eq k G σ h)).trans (by kernel_rfl)
@[simp] def n13 (G : KT4 R) (v1 v2 v3 : GV) (h : Heap) : Option R := g13_0 k G v1 v2 v3 h
theorem n13_eq (G : KT4 R) (σ : GS) (h : Heap) : KC k 45 c13 σ h (fun x σ h => G x (σ 1) (σ 2) (σ 3) (σ 44) h) = n13 k G (σ 1) (σ 2) (σ 3) h := (kregion_eq (id := 6) (draw := true) (ops := o13) (gs := [(none, [0, 1, 2, 3, 4, 5, 6, 7, 8, 9]), (some (9, false), [10, 11, 12, 13, 14, 15, 16]), (none, [17])]) (by kernel_rfl) (by kernel_rfl) (by kernel_rfl)).trans (g13_0_eq k G σ h)
@[simp] def n11 (G : KT3 R) (v1 v2 v3 : GV) (h : Heap) : Option R := n13 k (fun x v1 v2 v3 v44 h => kx x (n12 k G v1 v2 v3 v44 h) (G x v1 v2 v3 h)) v1 v2 v3 h
theorem n11_eq (G : KT3 R) (σ : GS) (h : Heap) : KC k 45 c11 σ h (fun x σ h => G x (σ 1) (σ 2) (σ 3) h) = n11 k G (σ 1) (σ 2) (σ 3) h := (kseq (b := c12) rfl (fun σ h => n12_eq k G σ h)).trans (n13_eq k (fun x v1 v2 v3 v44 h => kx x (n12 k G v1 v2 v3 v44 h) (G x v1 v2 v3 h)) σ h)
@[simp] def n10 (G : KT3 R) (v1 v2 v3 : GV) (h : Heap) : Option R := n11 k (fun x v1 v2 v3 h => kb 1 x fun x => G x v1 v2 v3 h) v1 v2 v3 h
theorem n10_eq (G : KT3 R) (σ : GS) (h : Heap) : KC k 45 c10 σ h (fun x σ h => G x (σ 1) (σ 2) (σ 3) h) = n10 k G (σ 1) (σ 2) (σ 3) h := (kblock_eq (a := c11) rfl).trans (n11_eq k (fun x v1 v2 v3 h => kb 1 x fun x => G x v1 v2 v3 h) σ h)
@[simp] def n8 (G : KT3 R) (v1 v2 v3 : GV) (h : Heap) : Option R := n10 k (fun x v1 v2 v3 h => kx x (n9 k G v1 v2 v3 h) (G x v1 v2 v3 h)) v1 v2 v3 h
theorem n8_eq (G : KT3 R) (σ : GS) (h : Heap) : KC k 45 c8 σ h (fun x σ h => G x (σ 1) (σ 2) (σ 3) h) = n8 k G (σ 1) (σ 2) (σ 3) h := (kseq (b := c9) rfl (fun σ h => n9_eq k G σ h)).trans (n10_eq k (fun x v1 v2 v3 h => kx x (n9 k G v1 v2 v3 h) (G x v1 v2 v3 h)) σ h)
noncomputable def c14 : Code := cL c7
@[simp] def n7 (G : KT3 R) (v1 v2 v3 : GV) (h : Heap) : Option R := (kfa 1 v1).bind fun v21 => (kload1 h v21).bind fun v22 => (klen v22).bind fun v23 => (kbin .lss v3 v23).bind fun v24 => kcond v24 (n8 k G v1 v2 v3 h) (G (.ext 0) v1 v2 v3 h)
theorem n7_eq (G : KT3 R) (σ : GS) (h : Heap) : KC k 45 c7 σ h (fun x σ h => G x (σ 1) (σ 2) (σ 3) h) = n7 k G (σ 1) (σ 2) (σ 3) h := (kseq (a := c14) (b := c8) rfl (fun σ h => n8_eq k G σ h)).trans (by kernel_rfl)
def l6 {R : Type} (k : Nat) (G : KT1 R) : Nat → GV → GV → GV → Heap → Option R
  | 0, _, _, _, _ => none
  | r + 1, v1, v2, v3, h => n7 k (fun x v1 v2 v3 h => kx x (l6 k G r v1 v2 v3 h) (G x v2 h)) v1 v2 v3 h
theorem l6_eq {R : Type} (k : Nat) (G : KT1 R) : ∀ (r : Nat) (σ : GS) (h : Heap), kloop (fun σ h K => KC k 45 c7 σ h K) r σ h (fun x σ h => G x (σ 2) h) = l6 k G r (σ 1) (σ 2) (σ 3) h
  | 0, _, _ => rfl
  | r + 1, σ, h => (kloop_eq (fun σ h => l6_eq k G r σ h)).trans (n7_eq k (fun x v1 v2 v3 h => kx x (l6 k G r v1 v2 v3 h) (G x v2 h)) σ h)
@[simp] def n6 (G : KT1 R) (v1 v2 v3 : GV) (h : Heap) : Option R := l6 k G k v1 v2 v3 h
theorem n6_eq (G : KT1 R) (σ : GS) (h : Heap) : KC k 45 c6 σ h (fun x σ h => G x (σ 2) h) = n6 k G (σ 1) (σ 2) (σ 3) h := (kloopc_eq (a := c7) rfl).trans (l6_eq k G k σ h)
@[simp] def n5 (G : KT1 R) (v1 v2 v3 : GV) (h : Heap) : Option R := n6 k (fun x v2 h => kb 0 x fun x => G x v2 h) v1 v2 v3 h
theorem n5_eq (G : KT1 R) (σ : GS) (h : Heap) : KC k 45 c5 σ h (fun x σ h => G x (σ 2) h) = n5 k G (σ 1) (σ 2) (σ 3) h := (kblock_eq (a := c6) rfl).trans (n6_eq k (fun x v2 h => kb 0 x fun x => G x v2 h) σ h)
noncomputable def c15 : Code := cL c4
@[simp] def n4 (G : KT1 R) (v1 v2 : GV) (h : Heap) : Option R := n5 k G v1 v2 (.int .i64 0) h
theorem n4_eq (G : KT1 R) (σ : GS) (h : Heap) : KC k 45 c4 σ h (fun x σ h => G x (σ 2) h) = n4 k G (σ 1) (σ 2) h := (kseq (a := c15) (b := c5) rfl (fun σ h => n5_eq k G σ h)).trans (by kernel_rfl)
@[simp] def n2 (G : KT1 R) (v1 v2 : GV) (h : Heap) : Option R := n4 k (fun x v2 h => kx x (n3 k G h) (G x v2 h)) v1 v2 h
theorem n2_eq (G : KT1 R) (σ : GS) (h : Heap) : KC k 45 c2 σ h (fun x σ h => G x (σ 2) h) = n2 k G (σ 1) (σ 2) h := (kseq (b := c3) rfl (fun σ h => n3_eq k G σ h)).trans (n4_eq k (fun x v2 h => kx x (n3 k G h) (G x v2 h)) σ h)
noncomputable def c16 : Code := cL c1
noncomputable def c17 : Code := cR c16
@[simp] def n17 {R : Type} (k : Nat) (G : KT2 R) (v1 v2 v19 : GV) (h : Heap) : Option R := kcond v19 (G .ret v1 (.bool false) h) (G .nrm v1 v2 h)
theorem n17_eq (G : KT2 R) (σ : GS) (h : Heap) : KC k 45 c17 σ h (fun x σ h => G x (σ 1) (σ 2) h) = n17 k G (σ 1) (σ 2) (σ 19) h := by kernel_rfl
noncomputable def c18 : Code := cL c16
noncomputable def o18 : Array Oper := cO c18
@[simp] def g18_4 {R : Type} (k : Nat) (G : KT3 R) (v1 v2 v14 v18 : GV) (h : Heap) : Option R := (kpick v14 (.bool true) v18).bind fun v19 => G .nrm v1 v2 v19 h
theorem g18_4_eq (G : KT3 R) (σ : GS) (h : Heap) : kgroups PP cfg NN HH 45 o18 [(none, [15])] σ h (fun σ h => G .nrm (σ 1) (σ 2) (σ 19) h) = g18_4 k G (σ 1) (σ 2) (σ 14) (σ 18) h := by kernel_rfl
@[simp] def g18_3 (G : KT3 R) (v1 v2 v14 : GV) (h : Heap) : Option R := bif tr false v14 then (kfa 1 v1).bind fun v15 => (kload1 h v15).bind fun v16 => (klen v16).bind fun v17 => (kbin .gtr v17 (.int .i64 30)).bind fun v18 => g18_4 k G v1 v2 v14 v18 h else g18_4 k G v1 v2 v14 .un h
theorem g18_3_eq (G : KT3 R) (σ : GS) (h : Heap) : kgroups PP cfg NN HH 45 o18 [(some (10, false), [11, 12, 13, 14]), (none, [15])] σ h (fun σ h => G .nrm (σ 1) (σ 2) (σ 19) h) = g18_3 k G (σ 1) (σ 2) (σ 14) h := (kgroups_cons (fun σ h => g18_4_eq k G σ h)).trans (by kernel_rfl)
@[simp] def g18_2 (G : KT3 R) (v1 v2 v8 v12 : GV) (h : Heap) : Option R := (kpick v8 (.bool true) v12).bind fun v13 => g18_3 k G v1 v2 v13 h
theorem g18_2_eq (G : KT3 R) (σ : GS) (h : Heap) : kgroups PP cfg NN HH 45 o18 [(none, [9, 10]), (some (10, false), [11, 12, 13, 14]), (none, [15])] σ h (fun σ h => G .nrm (σ 1) (σ 2) (σ 19) h) = g18_2 k G (σ 1) (σ 2) (σ 8) (σ 12) h := (kgroups_cons (fun σ h => g18_3_eq k G σ h)).trans (by kernel_rfl)
@[simp] def g18_1 (G : KT3 R) (v1 v2 v8 : GV) (h : Heap) : Option R := bif tr false v8 then (kfa 1 v1).bind fun v9 => (kload1 h v9).bind fun v10 => (klen v10).bind fun v11 => (kbin .lss v11 (.int .i64 1)).bind fun v12 => g18_2 k G v1 v2 v8 v12 h else g18_2 k G v1 v2 v8 .un h
theorem g18_1_eq (G : KT3 R) (σ : GS) (h : Heap) : kgroups PP cfg NN HH 45 o18 [(some (4, false), [5, 6, 7, 8]), (none, [9, 10]), (some (10, false), [11, 12, 13, 14]), (none, [15])] σ h (fun σ h => G .nrm (σ 1) (σ 2) (σ 19) h) = g18_1 k G (σ 1) (σ 2) (σ 8) h := (kgroups_cons (fun σ h => g18_2_eq k G σ h)).trans (by kernel_rfl)
@[simp] def g18_0 (G : KT3 R) (v1 v2 : GV) (h : Heap) : Option R := (kfa 0 v1).bind fun v4 => (kload1 h v4).bind fun v5 => (kN NN fn.spec_l1In [v5, (.int .i64 1), (.int .i64 60)] h).bind fun v6 => (kun .not v6).bind fun v7 => g18_1 k G v1 v2 v7 h
theorem g18_0_eq (G : KT3 R) (σ : GS) (h : Heap) : kgroups PP cfg NN HH 45 o18 [(none, [0, 1, 2, 3, 4]), (some (4, false), [5, 6, 7, 8]), (none, [9, 10]), (some (10, false), [11, 12, 13, 14]), (none, [15])] σ h (fun σ h => G .nrm (σ 1) (σ 2) (σ 19) h) = g18_0 k G (σ 1) (σ 2) h := (kgroups_cons (fun σ h => g18_1_eq k G σ h)).trans (by kernel_rfl)
@[simp] def n18 (G : KT3 R) (v1 v2 : GV) (h : Heap) : Option R := g18_0 k G v1 v2 h
theorem n18_eq (G : KT3 R) (σ : GS) (h : Heap) : KC k 45 c18 σ h (fun x σ h => G x (σ 1) (σ 2) (σ 19) h) = n18 k G (σ 1) (σ 2) h := (kregion_eq (id := 1) (draw := false) (ops := o18) (gs := [(none, [0, 1, 2, 3, 4]), (some (4, false), [5, 6, 7, 8]), (none, [9, 10]), (some (10, false), [11, 12, 13, 14]), (none, [15])]) (by kernel_rfl) (by kernel_rfl) (by kernel_rfl)).trans (g18_0_eq k G σ h)
@[simp] def n16 (G : KT2 R) (v1 v2 : GV) (h : Heap) : Option R := n18 k (fun x v1 v2 v19 h => kx x (n17 k G v1 v2 v19 h) (G x v1 v2 h)) v1 v2 h
theorem n16_eq (G : KT2 R) (σ : GS) (h : Heap) : KC k 45 c16 σ h (fun x σ h => G x (σ 1) (σ 2) h) = n16 k G (σ 1) (σ 2) h := (kseq (b := c17) rfl (fun σ h => n17_eq k G σ h)).trans (n18_eq k (fun x v1 v2 v19 h => kx x (n17 k G v1 v2 v19 h) (G x v1 v2 h)) σ h)
@[simp] def n1 (G : KT1 R) (v1 v2 : GV) (h : Heap) : Option R := n16 k (fun x v1 v2 h => kx x (n2 k G v1 v2 h) (G x v2 h)) v1 v2 h
theorem n1_eq (G : KT1 R) (σ : GS) (h : Heap) : KC k 45 c1 σ h (fun x σ h => G x (σ 2) h) = n1 k G (σ 1) (σ 2) h := (kseq (b := c2) rfl (fun σ h => n2_eq k G σ h)).trans (n16_eq k (fun x v1 v2 h => kx x (n2 k G v1 v2 h) (G x v2 h)) σ h)
noncomputable def c19 : Code := cL c0
@[simp] def n0 (G : KT1 R) (v0 : GV) (h : Heap) : Option R := kbox v0 h fun v1 h => n1 k G v1 (.bool false) h
theorem n0_eq (G : KT1 R) (σ : GS) (h : Heap) : KC k 45 c0 σ h (fun x σ h => G x (σ 2) h) = n0 k G (σ 0) h := (kseq (a := c19) (b := c1) rfl (fun σ h => n1_eq k G σ h)).trans (by kernel_rfl)
def run {R : Type} (k : Nat) (a0 : GV) (h : Heap) (fin : GV → Heap → Option R) : Option R := n0 k (fun x v2 h => kend x (fin v2 h)) a0 h
theorem run_eq {R : Type} (k : Nat) (a0 : GV) (h : Heap) (fin : GV → Heap → Option R) : kfun PP cfg NN HH k fn.spec_GridOk [a0] h fin = run k a0 h fin := (kfun_eq (nt := 45) (c := c0) (show PP.funcs[fn.spec_GridOk]? = some Try.f228 by kernel_rfl) (by kernel_rfl) (by kernel_rfl) (fun x σ h => by cases x <;> kernel_rfl)).trans (n0_eq k (fun x v2 h => kend x (fin v2 h)) _ h)
theorem gives {k : Nat} {a0 : GV} {v : GV} (e : run k a0 [] finN = some v) : NN fn.spec_GridOk [a0] = some v := nω_of (by kernel_rfl) ((run_eq k a0 [] finN).trans e)
end S.spec_GridOk
/-! slices_ContainsFunc_impl_Cell_impl_Cell -/
namespace S.slices_ContainsFunc_impl_Cell_impl_Cell
noncomputable def c0 : Code := bodyOf Try.f269
@[simp] def n0 {R : Type} (k : Nat) (G : KT1 R) (v0 v1 : GV) (h : Heap) : Option R := (kN NN fn.slices_IndexFunc_impl_Cell_impl_Cell [v0, v1] h).bind fun v7 => (kbin .geq v7 (.int .i64 0)).bind fun v8 => G .ret v8 h
theorem n0_eq (G : KT1 R) (σ : GS) (h : Heap) : KC k 9 c0 σ h (fun x σ h => G x (σ 4) h) = n0 k G (σ 0) (σ 1) h := by kernel_rfl
def run {R : Type} (k : Nat) (a0 : GV) (a1 : GV) (h : Heap) (fin : GV → Heap → Option R) : Option R := n0 k (fun x v4 h => kend x (fin v4 h)) a0 a1 h
theorem run_eq {R : Type} (k : Nat) (a0 : GV) (a1 : GV) (h : Heap) (fin : GV → Heap → Option R) : kfun PP cfg NN HH k fn.slices_ContainsFunc_impl_Cell_impl_Cell [a0, a1] h fin = run k a0 a1 h fin := (kfun_eq (nt := 9) (c := c0) (show PP.funcs[fn.slices_ContainsFunc_impl_Cell_impl_Cell]? = some Try.f269 by kernel_rfl) (by kernel_rfl) (by kernel_rfl) (fun x σ h => by cases x <;> kernel_rfl)).trans (n0_eq k (fun x v4 h => kend x (fin v4 h)) _ h)
theorem gives {k : Nat} {a0 : GV} {a1 : GV} {v : GV} (e : run k a0 a1 [] finN = some v) : NN fn.slices_ContainsFunc_impl_Cell_impl_Cell [a0, a1] = some v := nω_of (by kernel_rfl) ((run_eq k a0 a1 [] finN).trans e)
end S.slices_ContainsFunc_impl_Cell_impl_Cell
/-! slices_IndexFunc_impl_Cell_impl_Cell -/
namespace S.slices_IndexFunc_impl_Cell_impl_Cell
noncomputable def c0 : Code := bodyOf Try.f284
noncomputable def c1 : Code := cR c0
noncomputable def c2 : Code := cR c1
@[simp] def n2 {R : Type} (k : Nat) (G : KT1 R) (h : Heap) : Option R := G .ret (.int .i64 (-1)) h
theorem n2_eq (G : KT1 R) (σ : GS) (h : Heap) : KC k 19 c2 σ h (fun x σ h => G x (σ 4) h) = n2 k G h := by kernel_rfl
noncomputable def c3 : Code := cL c1
noncomputable def c4 : Code := cR c3
noncomputable def c5 : Code := cL c4
noncomputable def c6 : Code := cL c5
noncomputable def c7 : Code := cR c6
noncomputable def c8 : Code := cR c7
noncomputable def c9 : Code := cR c8
@[simp] def n9 {R : Type} (k : Nat) (G : KT5 R) (v0 v1 v4 v7 v8 : GV) (h : Heap) : Option R := (kbin .add v8 (.int .i64 1)).bind fun v18 => G .nrm v0 v1 v4 v7 v18 h
theorem n9_eq (G : KT5 R) (σ : GS) (h : Heap) : KC k 19 c9 σ h (fun x σ h => G x (σ 0) (σ 1) (σ 4) (σ 7) (σ 8) h) = n9 k G (σ 0) (σ 1) (σ 4) (σ 7) (σ 8) h := by kernel_rfl
noncomputable def c10 : Code := cL c8
noncomputable def c11 : Code := cL c10
@[simp] def n11 {R : Type} (k : Nat) (G : KT5 R) (v0 v1 v4 v7 v8 : GV) (h : Heap) : Option R := (kia 1 v0 v8).bind fun v14 => (kload1 h v14).bind fun v15 => kval v1 [v15] h fun v16 h => kcond v16 (G .ret v0 v1 v8 v7 v8 h) (G .nrm v0 v1 v4 v7 v8 h)
theorem n11_eq (G : KT5 R) (σ : GS) (h : Heap) : KC k 19 c11 σ h (fun x σ h => G x (σ 0) (σ 1) (σ 4) (σ 7) (σ 8) h) = n11 k G (σ 0) (σ 1) (σ 4) (σ 7) (σ 8) h := by kernel_rfl
@[simp] def n10 (G : KT5 R) (v0 v1 v4 v7 v8 : GV) (h : Heap) : Option R := n11 k (fun x v0 v1 v4 v7 v8 h => kb 1 x fun x => G x v0 v1 v4 v7 v8 h) v0 v1 v4 v7 v8 h
theorem n10_eq (G : KT5 R) (σ : GS) (h : Heap) : KC k 19 c10 σ h (fun x σ h => G x (σ 0) (σ 1) (σ 4) (σ 7) (σ 8) h) = n10 k G (σ 0) (σ 1) (σ 4) (σ 7) (σ 8) h := (kblock_eq (a := c11) rfl).trans (n11_eq k (fun x v0 v1 v4 v7 v8 h => kb 1 x fun x => G x v0 v1 v4 v7 v8 h) σ h)
@[simp] def n8 (G : KT5 R) (v0 v1 v4 v7 v8 : GV) (h : Heap) : Option R := n10 k (fun x v0 v1 v4 v7 v8 h => kx x (n9 k G v0 v1 v4 v7 v8 h) (G x v0 v1 v4 v7 v8 h)) v0 v1 v4 v7 v8 h
theorem n8_eq (G : KT5 R) (σ : GS) (h : Heap) : KC k 19 c8 σ h (fun x σ h => G x (σ 0) (σ 1) (σ 4) (σ 7) (σ 8) h) = n8 k G (σ 0) (σ 1) (σ 4) (σ 7) (σ 8) h := (kseq (b := c9) rfl (fun σ h => n9_eq k G σ h)).trans (n10_eq k (fun x v0 v1 v4 v7 v8 h => kx x (n9 k G v0 v1 v4 v7 v8 h) (G x v0 v1 v4 v7 v8 h)) σ h)
noncomputable def c12 : Code := cL c7
@[simp] def n7 (G : KT5 R) (v0 v1 v4 v7 v8 v9 : GV) (h : Heap) : Option R := kcond v9 (n8 k G v0 v1 v4 v7 v8 h) (G (.ext 0) v0 v1 v4 v7 v8 h)
theorem n7_eq (G : KT5 R) (σ : GS) (h : Heap) : KC k 19 c7 σ h (fun x σ h => G x (σ 0) (σ 1) (σ 4) (σ 7) (σ 8) h) = n7 k G (σ 0) (σ 1) (σ 4) (σ 7) (σ 8) (σ 9) h := (kseq (a := c12) (b := c8) rfl (fun σ h => n8_eq k G σ h)).trans (by kernel_rfl)
noncomputable def c13 : Code := cL c6
@[simp] def n6 (G : KT5 R) (v0 v1 v4 v7 v8 : GV) (h : Heap) : Option R := (kbin .lss v8 v7).bind fun v9 => n7 k G v0 v1 v4 v7 v8 v9 h
theorem n6_eq (G : KT5 R) (σ : GS) (h : Heap) : KC k 19 c6 σ h (fun x σ h => G x (σ 0) (σ 1) (σ 4) (σ 7) (σ 8) h) = n6 k G (σ 0) (σ 1) (σ 4) (σ 7) (σ 8) h := (kseq (a := c13) (b := c7) rfl (fun σ h => n7_eq k G σ h)).trans (by kernel_rfl)
def l5 {R : Type} (k : Nat) (G : KT1 R) : Nat → GV → GV → GV → GV → GV → Heap → Option R
  | 0, _, _, _, _, _, _ => none
  | r + 1, v0, v1, v4, v7, v8, h => n6 k (fun x v0 v1 v4 v7 v8 h => kx x (l5 k G r v0 v1 v4 v7 v8 h) (G x v4 h)) v0 v1 v4 v7 v8 h
theorem l5_eq {R : Type} (k : Nat) (G : KT1 R) : ∀ (r : Nat) (σ : GS) (h : Heap), kloop (fun σ h K => KC k 19 c6 σ h K) r σ h (fun x σ h => G x (σ 4) h) = l5 k G r (σ 0) (σ 1) (σ 4) (σ 7) (σ 8) h
  | 0, _, _ => rfl
  | r + 1, σ, h => (kloop_eq (fun σ h => l5_eq k G r σ h)).trans (n6_eq k (fun x v0 v1 v4 v7 v8 h => kx x (l5 k G r v0 v1 v4 v7 v8 h) (G x v4 h)) σ h)
@[simp] def n5 (G : KT1 R) (v0 v1 v4 v7 v8 : GV) (h : Heap) : Option R := l5 k G k v0 v1 v4 v7 v8 h
theorem n5_eq (G : KT1 R) (σ : GS) (h : Heap) : KC k 19 c5 σ h (fun x σ h => G x (σ 4) h) = n5 k G (σ 0) (σ 1) (σ 4) (σ 7) (σ 8) h := (kloopc_eq (a := c6) rfl).trans (l5_eq k G k σ h)
@[simp] def n4 (G : KT1 R) (v0 v1 v4 v7 v8 : GV) (h : Heap) : Option R := n5 k (fun x v4 h => kb 0 x fun x => G x v4 h) v0 v1 v4 v7 v8 h
theorem n4_eq (G : KT1 R) (σ : GS) (h : Heap) : KC k 19 c4 σ h (fun x σ h => G x (σ 4) h) = n4 k G (σ 0) (σ 1) (σ 4) (σ 7) (σ 8) h := (kblock_eq (a := c5) rfl).trans (n5_eq k (fun x v4 h => kb 0 x fun x => G x v4 h) σ h)
noncomputable def c14 : Code := cL c3
@[simp] def n3 (G : KT1 R) (v0 v1 v4 : GV) (h : Heap) : Option R := (klen v0).bind fun v7 => n4 k G v0 v1 v4 v7 (.int .i64 0) h
theorem n3_eq (G : KT1 R) (σ : GS) (h : Heap) : KC k 19 c3 σ h (fun x σ h => G x (σ 4) h) = n3 k G (σ 0) (σ 1) (σ 4) h := (kseq (a := c14) (b := c4) rfl (fun σ h => n4_eq k G σ h)).trans (by kernel_rfl)
@[simp] def n1 (G : KT1 R) (v0 v1 v4 : GV) (h : Heap) : Option R := n3 k (fun x v4 h => kx x (n2 k G h) (G x v4 h)) v0 v1 v4 h
theorem n1_eq (G : KT1 R) (σ : GS) (h : Heap) : KC k 19 c1 σ h (fun x σ h => G x (σ 4) h) = n1 k G (σ 0) (σ 1) (σ 4) h := (kseq (b := c2) rfl (fun σ h => n2_eq k G σ h)).trans (n3_eq k (fun x v4 h => kx x (n2 k G h) (G x v4 h)) σ h)
noncomputable def c15 : Code := cL c0
@[simp] def n0 (G : KT1 R) (v0 v1 : GV) (h : Heap) : Option R := n1 k G v0 v1 (.int .i64 0) h
theorem n0_eq (G : KT1 R) (σ : GS) (h : Heap) : KC k 19 c0 σ h (fun x σ h => G x (σ 4) h) = n0 k G (σ 0) (σ 1) h := (kseq (a := c15) (b := c1) rfl (fun σ h => n1_eq k G σ h)).trans (by kernel_rfl)
def run {R : Type} (k : Nat) (a0 : GV) (a1 : GV) (h : Heap) (fin : GV → Heap → Option R) : Option R := n0 k (fun x v4 h => kend x (fin v4 h)) a0 a1 h
theorem run_eq {R : Type} (k : Nat) (a0 : GV) (a1 : GV) (h : Heap) (fin : GV → Heap → Option R) : kfun PP cfg NN HH k fn.slices_IndexFunc_impl_Cell_impl_Cell [a0, a1] h fin = run k a0 a1 h fin := (kfun_eq (nt := 19) (c := c0) (show PP.funcs[fn.slices_IndexFunc_impl_Cell_impl_Cell]? = some Try.f284 by kernel_rfl) (by kernel_rfl) (by kernel_rfl) (fun x σ h => by cases x <;> kernel_rfl)).trans (n0_eq k (fun x v4 h => kend x (fin v4 h)) _ h)
theorem gives {k : Nat} {a0 : GV} {a1 : GV} {v : GV} (e : run k a0 a1 [] finN = some v) : NN fn.slices_IndexFunc_impl_Cell_impl_Cell [a0, a1] = some v := nω_of (by kernel_rfl) ((run_eq k a0 a1 [] finN).trans e)
end S.slices_IndexFunc_impl_Cell_impl_Cell
/-! impl_isScroll -/
namespace S.impl_isScroll
noncomputable def c0 : Code := bodyOf Try.f175
noncomputable def c1 : Code := cR c0
noncomputable def c2 : Code := cR c1
@[simp] def n2 {R : Type} (k : Nat) (G : KT1 R) (v10 : GV) (h : Heap) : Option R := G .ret v10 h
theorem n2_eq (G : KT1 R) (σ : GS) (h : Heap) : KC k 36 c2 σ h (fun x σ h => G x (σ 10) h) = n2 k G (σ 10) h := by kernel_rfl
noncomputable def c3 : Code := cL c1
noncomputable def o3 : Array Oper := cO c3
@[simp] def g3_10 {R : Type} (k : Nat) (G : KT1 R) (v30 v34 : GV) (h : Heap) : Option R := (kpick v30 v34 (.bool false)).bind fun v35 => G .nrm v35 h
theorem g3_10_eq (G : KT1 R) (σ : GS) (h : Heap) : kgroups PP cfg NN HH 36 o3 [(none, [24, 25])] σ h (fun σ h => G .nrm (σ 10) h) = g3_10 k G (σ 30) (σ 34) h := by kernel_rfl
@[simp] def g3_9 (G : KT1 R) (v2 v5 v30 : GV) (h : Heap) : Option R := bif tr true v30 then (kloadA 2 h v5).bind fun v32 => (kN NN fn.impl_Grid_last [v32] h).bind fun v33 => (kbin .leq v2 v33).bind fun v34 => g3_10 k G v30 v34 h else g3_10 k G v30 .un h
theorem g3_9_eq (G : KT1 R) (σ : GS) (h : Heap) : kgroups PP cfg NN HH 36 o3 [(some (19, true), [20, 21, 22, 23]), (none, [24, 25])] σ h (fun σ h => G .nrm (σ 10) h) = g3_9 k G (σ 2) (σ 5) (σ 30) h := (kgroups_cons (fun σ h => g3_10_eq k G σ h)).trans (by kernel_rfl)
@[simp] def g3_8 (G : KT1 R) (v2 v5 v25 v28 : GV) (h : Heap) : Option R := (kpick v25 v28 (.bool false)).bind fun v29 => g3_9 k G v2 v5 v29 h
theorem g3_8_eq (G : KT1 R) (σ : GS) (h : Heap) : kgroups PP cfg NN HH 36 o3 [(none, [18, 19]), (some (19, true), [20, 21, 22, 23]), (none, [24, 25])] σ h (fun σ h => G .nrm (σ 10) h) = g3_8 k G (σ 2) (σ 5) (σ 25) (σ 28) h := (kgroups_cons (fun σ h => g3_9_eq k G σ h)).trans (by kernel_rfl)
@[simp] def g3_7 (G : KT1 R) (v1 v2 v5 v25 : GV) (h : Heap) : Option R := bif tr true v25 then (kbin .leq v1 v2).bind fun v28 => g3_8 k G v2 v5 v25 v28 h else g3_8 k G v2 v5 v25 .un h
theorem g3_7_eq (G : KT1 R) (σ : GS) (h : Heap) : kgroups PP cfg NN HH 36 o3 [(some (14, true), [15, 16, 17]), (none, [18, 19]), (some (19, true), [20, 21, 22, 23]), (none, [24, 25])] σ h (fun σ h => G .nrm (σ 10) h) = g3_7 k G (σ 1) (σ 2) (σ 5) (σ 25) h := (kgroups_cons (fun σ h => g3_8_eq k G σ h)).trans (by kernel_rfl)
@[simp] def g3_6 (G : KT1 R) (v1 v2 v5 v21 v23 : GV) (h : Heap) : Option R := (kpick v21 v23 (.bool false)).bind fun v24 => g3_7 k G v1 v2 v5 v24 h
theorem g3_6_eq (G : KT1 R) (σ : GS) (h : Heap) : kgroups PP cfg NN HH 36 o3 [(none, [13, 14]), (some (14, true), [15, 16, 17]), (none, [18, 19]), (some (19, true), [20, 21, 22, 23]), (none, [24, 25])] σ h (fun σ h => G .nrm (σ 10) h) = g3_6 k G (σ 1) (σ 2) (σ 5) (σ 21) (σ 23) h := (kgroups_cons (fun σ h => g3_7_eq k G σ h)).trans (by kernel_rfl)
@[simp] def g3_5 (G : KT1 R) (v1 v2 v5 v21 : GV) (h : Heap) : Option R := bif tr true v21 then (kbin .leq (.int .i64 0) v1).bind fun v23 => g3_6 k G v1 v2 v5 v21 v23 h else g3_6 k G v1 v2 v5 v21 .un h
theorem g3_5_eq (G : KT1 R) (σ : GS) (h : Heap) : kgroups PP cfg NN HH 36 o3 [(some (10, true), [11, 12]), (none, [13, 14]), (some (14, true), [15, 16, 17]), (none, [18, 19]), (some (19, true), [20, 21, 22, 23]), (none, [24, 25])] σ h (fun σ h => G .nrm (σ 10) h) = g3_5 k G (σ 1) (σ 2) (σ 5) (σ 21) h := (kgroups_cons (fun σ h => g3_6_eq k G σ h)).trans (by kernel_rfl)
@[simp] def g3_4 (G : KT1 R) (v1 v2 v5 v17 v19 : GV) (h : Heap) : Option R := (kpick v17 v19 (.bool false)).bind fun v20 => g3_5 k G v1 v2 v5 v20 h
theorem g3_4_eq (G : KT1 R) (σ : GS) (h : Heap) : kgroups PP cfg NN HH 36 o3 [(none, [9, 10]), (some (10, true), [11, 12]), (none, [13, 14]), (some (14, true), [15, 16, 17]), (none, [18, 19]), (some (19, true), [20, 21, 22, 23]), (none, [24, 25])] σ h (fun σ h => G .nrm (σ 10) h) = g3_4 k G (σ 1) (σ 2) (σ 5) (σ 17) (σ 19) h := (kgroups_cons (fun σ h => g3_5_eq k G σ h)).trans (by kernel_rfl)
@[simp] def g3_3 (G : KT1 R) (v1 v2 v3 v5 v17 : GV) (h : Heap) : Option R := bif tr true v17 then (kN NN fn.impl_in [v3, (.int .i64 0), (.int .i64 1000)] h).bind fun v19 => g3_4 k G v1 v2 v5 v17 v19 h else g3_4 k G v1 v2 v5 v17 .un h
theorem g3_3_eq (G : KT1 R) (σ : GS) (h : Heap) : kgroups PP cfg NN HH 36 o3 [(some (6, true), [7, 8]), (none, [9, 10]), (some (10, true), [11, 12]), (none, [13, 14]), (some (14, true), [15, 16, 17]), (none, [18, 19]), (some (19, true), [20, 21, 22, 23]), (none, [24, 25])] σ h (fun σ h => G .nrm (σ 10) h) = g3_3 k G (σ 1) (σ 2) (σ 3) (σ 5) (σ 17) h := (kgroups_cons (fun σ h => g3_4_eq k G σ h)).trans (by kernel_rfl)
@[simp] def g3_2 (G : KT1 R) (v1 v2 v3 v5 v13 v15 : GV) (h : Heap) : Option R := (kpick v13 v15 (.bool false)).bind fun v16 => g3_3 k G v1 v2 v3 v5 v16 h
theorem g3_2_eq (G : KT1 R) (σ : GS) (h : Heap) : kgroups PP cfg NN HH 36 o3 [(none, [5, 6]), (some (6, true), [7, 8]), (none, [9, 10]), (some (10, true), [11, 12]), (none, [13, 14]), (some (14, true), [15, 16, 17]), (none, [18, 19]), (some (19, true), [20, 21, 22, 23]), (none, [24, 25])] σ h (fun σ h => G .nrm (σ 10) h) = g3_2 k G (σ 1) (σ 2) (σ 3) (σ 5) (σ 13) (σ 15) h := (kgroups_cons (fun σ h => g3_3_eq k G σ h)).trans (by kernel_rfl)
@[simp] def g3_1 (G : KT1 R) (v1 v2 v3 v5 v9 v13 : GV) (h : Heap) : Option R := bif tr true v13 then (kloadA 5 h v9).bind fun v14 => (kN NN fn.impl_StyleOk [v14] h).bind fun v15 => g3_2 k G v1 v2 v3 v5 v13 v15 h else g3_2 k G v1 v2 v3 v5 v13 .un h
theorem g3_1_eq (G : KT1 R) (σ : GS) (h : Heap) : kgroups PP cfg NN HH 36 o3 [(some (2, true), [3, 4]), (none, [5, 6]), (some (6, true), [7, 8]), (none, [9, 10]), (some (10, true), [11, 12]), (none, [13, 14]), (some (14, true), [15, 16, 17]), (none, [18, 19]), (some (19, true), [20, 21, 22, 23]), (none, [24, 25])] σ h (fun σ h => G .nrm (σ 10) h) = g3_1 k G (σ 1) (σ 2) (σ 3) (σ 5) (σ 9) (σ 13) h := (kgroups_cons (fun σ h => g3_2_eq k G σ h)).trans (by kernel_rfl)
@[simp] def g3_0 (G : KT1 R) (v1 v2 v3 v5 v9 : GV) (h : Heap) : Option R := (kloadA 2 h v5).bind fun v11 => (kN NN fn.impl_GridOk [v11] h).bind fun v12 => g3_1 k G v1 v2 v3 v5 v9 v12 h
theorem g3_0_eq (G : KT1 R) (σ : GS) (h : Heap) : kgroups PP cfg NN HH 36 o3 [(none, [0, 1, 2]), (some (2, true), [3, 4]), (none, [5, 6]), (some (6, true), [7, 8]), (none, [9, 10]), (some (10, true), [11, 12]), (none, [13, 14]), (some (14, true), [15, 16, 17]), (none, [18, 19]), (some (19, true), [20, 21, 22, 23]), (none, [24, 25])] σ h (fun σ h => G .nrm (σ 10) h) = g3_0 k G (σ 1) (σ 2) (σ 3) (σ 5) (σ 9) h := (kgroups_cons (fun σ h => g3_1_eq k G σ h)).trans (by kernel_rfl)
@[simp] def n3 (G : KT1 R) (v1 v2 v3 v5 v9 : GV) (h : Heap) : Option R := g3_0 k G v1 v2 v3 v5 v9 h
theorem n3_eq (G : KT1 R) (σ : GS) (h : Heap) : KC k 36 c3 σ h (fun x σ h => G x (σ 10) h) = n3 k G (σ 1) (σ 2) (σ 3) (σ 5) (σ 9) h := (kregion_eq (id := 1) (draw := false) (ops := o3) (gs := [(none, [0, 1, 2]), (some (2, true), [3, 4]), (none, [5, 6]), (some (6, true), [7, 8]), (none, [9, 10]), (some (10, true), [11, 12]), (none, [13, 14]), (some (14, true), [15, 16, 17]), (none, [18, 19]), (some (19, true), [20, 21, 22, 23]), (none, [24, 25])]) (by kernel_rfl) (by kernel_rfl) (by kernel_rfl)).trans (g3_0_eq k G σ h)
@[simp] def n1 (G : KT1 R) (v1 v2 v3 v5 v9 : GV) (h : Heap) : Option R := n3 k (fun x v10 h => kx x (n2 k G v10 h) (G x v10 h)) v1 v2 v3 v5 v9 h
theorem n1_eq (G : KT1 R) (σ : GS) (h : Heap) : KC k 36 c1 σ h (fun x σ h => G x (σ 10) h) = n1 k G (σ 1) (σ 2) (σ 3) (σ 5) (σ 9) h := (kseq (b := c2) rfl (fun σ h => n2_eq k G σ h)).trans (n3_eq k (fun x v10 h => kx x (n2 k G v10 h) (G x v10 h)) σ h)
noncomputable def c4 : Code := cL c0
@[simp] def n0 (G : KT1 R) (v0 v1 v2 v3 v4 : GV) (h : Heap) : Option R := kbox v0 h fun v5 h => kbox v4 h fun v9 h => n1 k G v1 v2 v3 v5 v9 h
theorem n0_eq (G : KT1 R) (σ : GS) (h : Heap) : KC k 36 c0 σ h (fun x σ h => G x (σ 10) h) = n0 k G (σ 0) (σ 1) (σ 2) (σ 3) (σ 4) h := (kseq (a := c4) (b := c1) rfl (fun σ h => n1_eq k G σ h)).trans (by kernel_rfl)
def run {R : Type} (k : Nat) (a0 : GV) (a1 : GV) (a2 : GV) (a3 : GV) (a4 : GV) (h : Heap) (fin : GV → Heap → Option R) : Option R := n0 k (fun x v10 h => kend x (fin v10 h)) a0 a1 a2 a3 a4 h
theorem run_eq {R : Type} (k : Nat) (a0 : GV) (a1 : GV) (a2 : GV) (a3 : GV) (a4 : GV) (h : Heap) (fin : GV → Heap → Option R) : kfun PP cfg NN HH k fn.impl_isScroll [a0, a1, a2, a3, a4] h fin = run k a0 a1 a2 a3 a4 h fin := (kfun_eq (nt := 36) (c := c0) (show PP.funcs[fn.impl_isScroll]? = some Try.f175 by kernel_rfl) (by kernel_rfl) (by kernel_rfl) (fun x σ h => by cases x <;> kernel_rfl)).trans (n0_eq k (fun x v10 h => kend x (fin v10 h)) _ h)
theorem gives {k : Nat} {a0 : GV} {a1 : GV} {a2 : GV} {a3 : GV} {a4 : GV} {v : GV} (e : run k a0 a1 a2 a3 a4 [] finN = some v) : NN fn.impl_isScroll [a0, a1, a2, a3, a4] = some v := nω_of (by kernel_rfl) ((run_eq k a0 a1 a2 a3 a4 [] finN).trans e)
end S.impl_isScroll
/-! spec_l5Told -/
namespace S.spec_l5Told
noncomputable def c0 : Code := bodyOf Try.f171
noncomputable def c1 : Code := cR c0
noncomputable def c2 : Code := cR c1
@[simp] def n2 {R : Type} (k : Nat) (G : KT1 R) (v10 : GV) (h : Heap) : Option R := G .ret v10 h
theorem n2_eq (G : KT1 R) (σ : GS) (h : Heap) : KC k 33 c2 σ h (fun x σ h => G x (σ 10) h) = n2 k G (σ 10) h := by kernel_rfl
noncomputable def c3 : Code := cL c1
noncomputable def o3 : Array Oper := cO c3
@[simp] def g3_8 {R : Type} (k : Nat) (G : KT1 R) (v29 v31 : GV) (h : Heap) : Option R := (kpick v29 v31 (.bool false)).bind fun v32 => G .nrm v32 h
theorem g3_8_eq (G : KT1 R) (σ : GS) (h : Heap) : kgroups PP cfg NN HH 33 o3 [(none, [21, 22])] σ h (fun σ h => G .nrm (σ 10) h) = g3_8 k G (σ 29) (σ 31) h := by kernel_rfl
@[simp] def g3_7 (G : KT1 R) (v3 v29 : GV) (h : Heap) : Option R := bif tr true v29 then (kN NN fn.spec_l1In [v3, (.int .i64 0), (.int .i64 1000)] h).bind fun v31 => g3_8 k G v29 v31 h else g3_8 k G v29 .un h
theorem g3_7_eq (G : KT1 R) (σ : GS) (h : Heap) : kgroups PP cfg NN HH 33 o3 [(some (18, true), [19, 20]), (none, [21, 22])] σ h (fun σ h => G .nrm (σ 10) h) = g3_7 k G (σ 3) (σ 29) h := (kgroups_cons (fun σ h => g3_8_eq k G σ h)).trans (by kernel_rfl)
@[simp] def g3_6 (G : KT1 R) (v3 v22 v27 : GV) (h : Heap) : Option R := (kpick v22 v27 (.bool false)).bind fun v28 => g3_7 k G v3 v28 h
theorem g3_6_eq (G : KT1 R) (σ : GS) (h : Heap) : kgroups PP cfg NN HH 33 o3 [(none, [17, 18]), (some (18, true), [19, 20]), (none, [21, 22])] σ h (fun σ h => G .nrm (σ 10) h) = g3_6 k G (σ 3) (σ 22) (σ 27) h := (kgroups_cons (fun σ h => g3_7_eq k G σ h)).trans (by kernel_rfl)
@[simp] def g3_5 (G : KT1 R) (v2 v3 v5 v22 : GV) (h : Heap) : Option R := bif tr true v22 then (kfa 1 v5).bind fun v24 => (kload1 h v24).bind fun v25 => (klen v25).bind fun v26 => (kbin .lss v2 v26).bind fun v27 => g3_6 k G v3 v22 v27 h else g3_6 k G v3 v22 .un h
theorem g3_5_eq (G : KT1 R) (σ : GS) (h : Heap) : kgroups PP cfg NN HH 33 o3 [(some (11, true), [12, 13, 14, 15, 16]), (none, [17, 18]), (some (18, true), [19, 20]), (none, [21, 22])] σ h (fun σ h => G .nrm (σ 10) h) = g3_5 k G (σ 2) (σ 3) (σ 5) (σ 22) h := (kgroups_cons (fun σ h => g3_6_eq k G σ h)).trans (by kernel_rfl)
@[simp] def g3_4 (G : KT1 R) (v2 v3 v5 v17 v20 : GV) (h : Heap) : Option R := (kpick v17 v20 (.bool false)).bind fun v21 => g3_5 k G v2 v3 v5 v21 h
theorem g3_4_eq (G : KT1 R) (σ : GS) (h : Heap) : kgroups PP cfg NN HH 33 o3 [(none, [10, 11]), (some (11, true), [12, 13, 14, 15, 16]), (none, [17, 18]), (some (18, true), [19, 20]), (none, [21, 22])] σ h (fun σ h => G .nrm (σ 10) h) = g3_4 k G (σ 2) (σ 3) (σ 5) (σ 17) (σ 20) h := (kgroups_cons (fun σ h => g3_5_eq k G σ h)).trans (by kernel_rfl)
@[simp] def g3_3 (G : KT1 R) (v1 v2 v3 v5 v17 : GV) (h : Heap) : Option R := bif tr true v17 then (kN NN fn.spec_l1In [v1, (.int .i64 0), v2] h).bind fun v20 => g3_4 k G v2 v3 v5 v17 v20 h else g3_4 k G v2 v3 v5 v17 .un h
theorem g3_3_eq (G : KT1 R) (σ : GS) (h : Heap) : kgroups PP cfg NN HH 33 o3 [(some (6, true), [7, 8, 9]), (none, [10, 11]), (some (11, true), [12, 13, 14, 15, 16]), (none, [17, 18]), (some (18, true), [19, 20]), (none, [21, 22])] σ h (fun σ h => G .nrm (σ 10) h) = g3_3 k G (σ 1) (σ 2) (σ 3) (σ 5) (σ 17) h := (kgroups_cons (fun σ h => g3_4_eq k G σ h)).trans (by kernel_rfl)
@[simp] def g3_2 (G : KT1 R) (v1 v2 v3 v5 v13 v15 : GV) (h : Heap) : Option R := (kpick v13 v15 (.bool false)).bind fun v16 => g3_3 k G v1 v2 v3 v5 v16 h
theorem g3_2_eq (G : KT1 R) (σ : GS) (h : Heap) : kgroups PP cfg NN HH 33 o3 [(none, [5, 6]), (some (6, true), [7, 8, 9]), (none, [10, 11]), (some (11, true), [12, 13, 14, 15, 16]), (none, [17, 18]), (some (18, true), [19, 20]), (none, [21, 22])] σ h (fun σ h => G .nrm (σ 10) h) = g3_2 k G (σ 1) (σ 2) (σ 3) (σ 5) (σ 13) (σ 15) h := (kgroups_cons (fun σ h => g3_3_eq k G σ h)).trans (by kernel_rfl)
@[simp] def g3_1 (G : KT1 R) (v1 v2 v3 v5 v9 v13 : GV) (h : Heap) : Option R := bif tr true v13 then (kloadA 5 h v9).bind fun v14 => (kN NN fn.spec_StyleOk [v14] h).bind fun v15 => g3_2 k G v1 v2 v3 v5 v13 v15 h else g3_2 k G v1 v2 v3 v5 v13 .un h
theorem g3_1_eq (G : KT1 R) (σ : GS) (h : Heap) : kgroups PP cfg NN HH 33 o3 [(some (2, true), [3, 4]), (none, [5, 6]), (some (6, true), [7, 8, 9]), (none, [10, 11]), (some (11, true), [12, 13, 14, 15, 16]), (none, [17, 18]), (some (18, true), [19, 20]), (none, [21, 22])] σ h (fun σ h => G .nrm (σ 10) h) = g3_1 k G (σ 1) (σ 2) (σ 3) (σ 5) (σ 9) (σ 13) h := (kgroups_cons (fun σ h => g3_2_eq k G σ h)).trans (by kernel_rfl)
@[simp] def g3_0 (G : KT1 R) (v1 v2 v3 v5 v9 : GV) (h : Heap) : Option R := (kloadA 2 h v5).bind fun v11 => (kN NN fn.spec_GridOk [v11] h).bind fun v12 => g3_1 k G v1 v2 v3 v5 v9 v12 h
theorem g3_0_eq (G : KT1 R) (σ : GS) (h : Heap) : kgroups PP cfg NN HH 33 o3 [(none, [0, 1, 2]), (some (2, true), [3, 4]), (none, [5, 6]), (some (6, true), [7, 8, 9]), (none, [10, 11]), (some (11, true), [12, 13, 14, 15, 16]), (none, [17, 18]), (some (18, true), [19, 20]), (none, [21, 22])] σ h (fun σ h => G .nrm (σ 10) h) = g3_0 k G (σ 1) (σ 2) (σ 3) (σ 5) (σ 9) h := (kgroups_cons (fun σ h => g3_1_eq k G σ h)).trans (by kernel_rfl)
@[simp] def n3 (G : KT1 R) (v1 v2 v3 v5 v9 : GV) (h : Heap) : Option R := g3_0 k G v1 v2 v3 v5 v9 h
theorem n3_eq (G : KT1 R) (σ : GS) (h : Heap) : KC k 33 c3 σ h (fun x σ h => G x (σ 10) h) = n3 k G (σ 1) (σ 2) (σ 3) (σ 5) (σ 9) h := (kregion_eq (id := 1) (draw := false) (ops := o3) (gs := [(none, [0, 1, 2]), (some (2, true), [3, 4]), (none, [5, 6]), (some (6, true), [7, 8, 9]), (none, [10, 11]), (some (11, true), [12, 13, 14, 15, 16]), (none, [17, 18]), (some (18, true), [19, 20]), (none, [21, 22])]) (by kernel_rfl) (by kernel_rfl) (by kernel_rfl)).trans (g3_0_eq k G σ h)
@[simp] def n1 (G : KT1 R) (v1 v2 v3 v5 v9 : GV) (h : Heap) : Option R := n3 k (fun x v10 h => kx x (n2 k G v10 h) (G x v10 h)) v1 v2 v3 v5 v9 h
theorem n1_eq (G : KT1 R) (σ : GS) (h : Heap) : KC k 33 c1 σ h (fun x σ h => G x (σ 10) h) = n1 k G (σ 1) (σ 2) (σ 3) (σ 5) (σ 9) h := (kseq (b := c2) rfl (fun σ h => n2_eq k G σ h)).trans (n3_eq k (fun x v10 h => kx x (n2 k G v10 h) (G x v10 h)) σ h)
noncomputable def c4 : Code := cL c0
@[simp] def n0 (G : KT1 R) (v0 v1 v2 v3 v4 : GV) (h : Heap) : Option R := kbox v0 h fun v5 h => kbox v4 h fun v9 h => n1 k G v1 v2 v3 v5 v9 h
theorem n0_eq (G : KT1 R) (σ : GS) (h : Heap) : KC k 33 c0 σ h (fun x σ h => G x (σ 10) h) = n0 k G (σ 0) (σ 1) (σ 2) (σ 3) (σ 4) h := (kseq (a := c4) (b := c1) rfl (fun σ h => n1_eq k G σ h)).trans (by kernel_rfl)
def run {R : Type} (k : Nat) (a0 : GV) (a1 : GV) (a2 : GV) (a3 : GV) (a4 : GV) (h : Heap) (fin : GV → Heap → Option R) : Option R := n0 k (fun x v10 h => kend x (fin v10 h)) a0 a1 a2 a3 a4 h
theorem run_eq {R : Type} (k : Nat) (a0 : GV) (a1 : GV) (a2 : GV) (a3 : GV) (a4 : GV) (h : Heap) (fin : GV → Heap → Option R) : kfun PP cfg NN HH k fn.spec_l5Told [a0, a1, a2, a3, a4] h fin = run k a0 a1 a2 a3 a4 h fin := (kfun_eq (nt := 33) (c := c0) (show PP.funcs[fn.spec_l5Told]? = some Try.f171 by kernel_rfl) (by kernel_rfl) (by kernel_rfl) (fun x σ h => by cases x <;> kernel_rfl)).trans (n0_eq k (fun x v10 h => kend x (fin v10 h)) _ h)
theorem gives {k : Nat} {a0 : GV} {a1 : GV} {a2 : GV} {a3 : GV} {a4 : GV} {v : GV} (e : run k a0 a1 a2 a3 a4 [] finN = some v) : NN fn.spec_l5Told [a0, a1, a2, a3, a4] = some v := nω_of (by kernel_rfl) ((run_eq k a0 a1 a2 a3 a4 [] finN).trans e)
end S.spec_l5Told
/-! impl_Grid_last -/
namespace S.impl_Grid_last
noncomputable def c0 : Code := bodyOf Try.f234
@[simp] def n0 {R : Type} (k : Nat) (G : KT1 R) (v0 : GV) (h : Heap) : Option R := kbox v0 h fun v1 h => (kfa 1 v1).bind fun v3 => (kload1 h v3).bind fun v4 => (klen v4).bind fun v5 => (kbin .sub v5 (.int .i64 1)).bind fun v6 => G .ret v6 h
theorem n0_eq (G : KT1 R) (σ : GS) (h : Heap) : KC k 7 c0 σ h (fun x σ h => G x (σ 2) h) = n0 k G (σ 0) h := by kernel_rfl
def run {R : Type} (k : Nat) (a0 : GV) (h : Heap) (fin : GV → Heap → Option R) : Option R := n0 k (fun x v2 h => kend x (fin v2 h)) a0 h
theorem run_eq {R : Type} (k : Nat) (a0 : GV) (h : Heap) (fin : GV → Heap → Option R) : kfun PP cfg NN HH k fn.impl_Grid_last [a0] h fin = run k a0 h fin := (kfun_eq (nt := 7) (c := c0) (show PP.funcs[fn.impl_Grid_last]? = some Try.f234 by kernel_rfl) (by kernel_rfl) (by kernel_rfl) (fun x σ h => by cases x <;> kernel_rfl)).trans (n0_eq k (fun x v2 h => kend x (fin v2 h)) _ h)
theorem gives {k : Nat} {a0 : GV} {v : GV} (e : run k a0 [] finN = some v) : NN fn.impl_Grid_last [a0] = some v := nω_of (by kernel_rfl) ((run_eq k a0 [] finN).trans e)
end S.impl_Grid_last
end
end Go.Proofs.Ytlbnioapepelnaa.G
