/- What these functions do, told for open values, out of the machine with continuations. Printed by a program of this session. -/
import Derived.Test.YtklhdbkaejbajaaDoorSA
import Derived.KernelRfl
namespace Go.Proofs.YtklhdbkaejbajaaDoor.G
open Go.RowKit
set_option linter.unusedVariables false
set_option maxRecDepth 100000
noncomputable section
/-! impl_Opened -/
namespace S.impl_Opened
noncomputable def c0 : Code := bodyOf Tryd.f23
noncomputable def c1 : Code := cR c0
noncomputable def c2 : Code := cR c1
noncomputable def c3 : Code := cR c2
noncomputable def c4 : Code := cR c3
noncomputable def c5 : Code := cR c4
@[simp] def n5 {R : Type} (k : Nat) (G : KT3 R) (v0 v1 v4 v5 v6 v11 v13 : GV) (h : Heap) : Option R := (kN NN fn.impl_xored [v0, v13, v11] h).bind fun v54 => (kN NN fn.impl_Sealed [v0, v13, v54] h).bind fun v58 => (kbin .neq v58 v1).bind fun v60 => kcond v60 (G .ret (.int .i64 (-1)) (.str { data := #[] }) (.bool false) h) (G .ret v13 v54 (.bool true) h)
theorem n5_eq {R : Type} (k : Nat) (G : KT3 R) (σ : GS) (h : Heap) : KC k 63 c5 σ h (fun x σ h => G x (σ 4) (σ 5) (σ 6) h) = n5 k G (σ 0) (σ 1) (σ 4) (σ 5) (σ 6) (σ 11) (σ 13) h := by kernel_rfl
noncomputable def c6 : Code := cL c4
noncomputable def c7 : Code := cR c6
@[simp] def n7 {R : Type} (k : Nat) (G : KT7 R) (v0 v1 v4 v5 v6 v11 v13 v50 : GV) (h : Heap) : Option R := kcond v50 (G .ret v0 v1 (.int .i64 (-1)) (.str { data := #[] }) (.bool false) v11 v13 h) (G .nrm v0 v1 v4 v5 v6 v11 v13 h)
theorem n7_eq {R : Type} (k : Nat) (G : KT7 R) (σ : GS) (h : Heap) : KC k 63 c7 σ h (fun x σ h => G x (σ 0) (σ 1) (σ 4) (σ 5) (σ 6) (σ 11) (σ 13) h) = n7 k G (σ 0) (σ 1) (σ 4) (σ 5) (σ 6) (σ 11) (σ 13) (σ 50) h := by kernel_rfl
noncomputable def c8 : Code := cL c6
noncomputable def o8 : Array Oper := cO c8
@[simp] def g8_6 {R : Type} (k : Nat) (G : KT8 R) (v0 v1 v4 v5 v6 v11 v13 v43 v49 : GV) (h : Heap) : Option R := (kpick v43 (.bool true) v49).bind fun v50 => G .nrm v0 v1 v4 v5 v6 v11 v13 v50 h
theorem g8_6_eq {R : Type} (k : Nat) (G : KT8 R) (σ : GS) (h : Heap) : kgroups PP cfg NN HH 63 o8 [(none, [17])] σ h (fun σ h => G .nrm (σ 0) (σ 1) (σ 4) (σ 5) (σ 6) (σ 11) (σ 13) (σ 50) h) = g8_6 k G (σ 0) (σ 1) (σ 4) (σ 5) (σ 6) (σ 11) (σ 13) (σ 43) (σ 49) h := by kernel_rfl
@[simp] def g8_5 {R : Type} (k : Nat) (G : KT8 R) (v0 v1 v4 v5 v6 v11 v13 v43 : GV) (h : Heap) : Option R := bif tr false v43 then (klenS v11).bind fun v47 => (kN NN fn.impl_isSeal [v0, v13, v47] h).bind fun v48 => (kun .not v48).bind fun v49 => g8_6 k G v0 v1 v4 v5 v6 v11 v13 v43 v49 h else g8_6 k G v0 v1 v4 v5 v6 v11 v13 v43 .un h
theorem g8_5_eq0 {R : Type} (k : Nat) (G : KT8 R) (σ : GS) (h : Heap) : kgroup1 PP cfg NN HH 63 o8 (some (10, false), [11, 12, 13, 14, 15, 16]) σ h (fun σ h => g8_6 k G (σ 0) (σ 1) (σ 4) (σ 5) (σ 6) (σ 11) (σ 13) (σ 43) (σ 49) h) = g8_5 k G (σ 0) (σ 1) (σ 4) (σ 5) (σ 6) (σ 11) (σ 13) (σ 43) h := by kernel_rfl
theorem g8_5_eq {R : Type} (k : Nat) (G : KT8 R) (σ : GS) (h : Heap) : kgroups PP cfg NN HH 63 o8 [(some (10, false), [11, 12, 13, 14, 15, 16]), (none, [17])] σ h (fun σ h => G .nrm (σ 0) (σ 1) (σ 4) (σ 5) (σ 6) (σ 11) (σ 13) (σ 50) h) = g8_5 k G (σ 0) (σ 1) (σ 4) (σ 5) (σ 6) (σ 11) (σ 13) (σ 43) h := (kgroups_cons (fun σ h => g8_6_eq k G σ h)).trans (g8_5_eq0 k G σ h)
@[simp] def g8_4 {R : Type} (k : Nat) (G : KT8 R) (v0 v1 v4 v5 v6 v11 v13 v39 v41 : GV) (h : Heap) : Option R := (kpick v39 (.bool true) v41).bind fun v42 => g8_5 k G v0 v1 v4 v5 v6 v11 v13 v42 h
theorem g8_4_eq0 {R : Type} (k : Nat) (G : KT8 R) (σ : GS) (h : Heap) : kgroup1 PP cfg NN HH 63 o8 (none, [9, 10]) σ h (fun σ h => g8_5 k G (σ 0) (σ 1) (σ 4) (σ 5) (σ 6) (σ 11) (σ 13) (σ 43) h) = g8_4 k G (σ 0) (σ 1) (σ 4) (σ 5) (σ 6) (σ 11) (σ 13) (σ 39) (σ 41) h := by kernel_rfl
theorem g8_4_eq {R : Type} (k : Nat) (G : KT8 R) (σ : GS) (h : Heap) : kgroups PP cfg NN HH 63 o8 [(none, [9, 10]), (some (10, false), [11, 12, 13, 14, 15, 16]), (none, [17])] σ h (fun σ h => G .nrm (σ 0) (σ 1) (σ 4) (σ 5) (σ 6) (σ 11) (σ 13) (σ 50) h) = g8_4 k G (σ 0) (σ 1) (σ 4) (σ 5) (σ 6) (σ 11) (σ 13) (σ 39) (σ 41) h := (kgroups_cons (fun σ h => g8_5_eq k G σ h)).trans (g8_4_eq0 k G σ h)
@[simp] def g8_3 {R : Type} (k : Nat) (G : KT8 R) (v0 v1 v4 v5 v6 v11 v13 v14 v39 : GV) (h : Heap) : Option R := bif tr false v39 then (gbinop PP .neq 113 (.tmp 40) (.const .nilIface) v14 .nili).bind fun v41 => g8_4 k G v0 v1 v4 v5 v6 v11 v13 v39 v41 h else g8_4 k G v0 v1 v4 v5 v6 v11 v13 v39 .un h
theorem g8_3_eq0 {R : Type} (k : Nat) (G : KT8 R) (σ : GS) (h : Heap) : kgroup1 PP cfg NN HH 63 o8 (some (6, false), [7, 8]) σ h (fun σ h => g8_4 k G (σ 0) (σ 1) (σ 4) (σ 5) (σ 6) (σ 11) (σ 13) (σ 39) (σ 41) h) = g8_3 k G (σ 0) (σ 1) (σ 4) (σ 5) (σ 6) (σ 11) (σ 13) (σ 14) (σ 39) h := by kernel_rfl
theorem g8_3_eq {R : Type} (k : Nat) (G : KT8 R) (σ : GS) (h : Heap) : kgroups PP cfg NN HH 63 o8 [(some (6, false), [7, 8]), (none, [9, 10]), (some (10, false), [11, 12, 13, 14, 15, 16]), (none, [17])] σ h (fun σ h => G .nrm (σ 0) (σ 1) (σ 4) (σ 5) (σ 6) (σ 11) (σ 13) (σ 50) h) = g8_3 k G (σ 0) (σ 1) (σ 4) (σ 5) (σ 6) (σ 11) (σ 13) (σ 14) (σ 39) h := (kgroups_cons (fun σ h => g8_4_eq k G σ h)).trans (g8_3_eq0 k G σ h)
@[simp] def g8_2 {R : Type} (k : Nat) (G : KT8 R) (v0 v1 v4 v5 v6 v11 v13 v14 v35 v37 : GV) (h : Heap) : Option R := (kpick v35 (.bool true) v37).bind fun v38 => g8_3 k G v0 v1 v4 v5 v6 v11 v13 v14 v38 h
theorem g8_2_eq0 {R : Type} (k : Nat) (G : KT8 R) (σ : GS) (h : Heap) : kgroup1 PP cfg NN HH 63 o8 (none, [5, 6]) σ h (fun σ h => g8_3 k G (σ 0) (σ 1) (σ 4) (σ 5) (σ 6) (σ 11) (σ 13) (σ 14) (σ 39) h) = g8_2 k G (σ 0) (σ 1) (σ 4) (σ 5) (σ 6) (σ 11) (σ 13) (σ 14) (σ 35) (σ 37) h := by kernel_rfl
theorem g8_2_eq {R : Type} (k : Nat) (G : KT8 R) (σ : GS) (h : Heap) : kgroups PP cfg NN HH 63 o8 [(none, [5, 6]), (some (6, false), [7, 8]), (none, [9, 10]), (some (10, false), [11, 12, 13, 14, 15, 16]), (none, [17])] σ h (fun σ h => G .nrm (σ 0) (σ 1) (σ 4) (σ 5) (σ 6) (σ 11) (σ 13) (σ 50) h) = g8_2 k G (σ 0) (σ 1) (σ 4) (σ 5) (σ 6) (σ 11) (σ 13) (σ 14) (σ 35) (σ 37) h := (kgroups_cons (fun σ h => g8_3_eq k G σ h)).trans (g8_2_eq0 k G σ h)
@[simp] def g8_1 {R : Type} (k : Nat) (G : KT8 R) (v0 v1 v4 v5 v6 v11 v12 v13 v14 v35 : GV) (h : Heap) : Option R := bif tr false v35 then (kun .not v12).bind fun v37 => g8_2 k G v0 v1 v4 v5 v6 v11 v13 v14 v35 v37 h else g8_2 k G v0 v1 v4 v5 v6 v11 v13 v14 v35 .un h
theorem g8_1_eq0 {R : Type} (k : Nat) (G : KT8 R) (σ : GS) (h : Heap) : kgroup1 PP cfg NN HH 63 o8 (some (2, false), [3, 4]) σ h (fun σ h => g8_2 k G (σ 0) (σ 1) (σ 4) (σ 5) (σ 6) (σ 11) (σ 13) (σ 14) (σ 35) (σ 37) h) = g8_1 k G (σ 0) (σ 1) (σ 4) (σ 5) (σ 6) (σ 11) (σ 12) (σ 13) (σ 14) (σ 35) h := by kernel_rfl
theorem g8_1_eq {R : Type} (k : Nat) (G : KT8 R) (σ : GS) (h : Heap) : kgroups PP cfg NN HH 63 o8 [(some (2, false), [3, 4]), (none, [5, 6]), (some (6, false), [7, 8]), (none, [9, 10]), (some (10, false), [11, 12, 13, 14, 15, 16]), (none, [17])] σ h (fun σ h => G .nrm (σ 0) (σ 1) (σ 4) (σ 5) (σ 6) (σ 11) (σ 13) (σ 50) h) = g8_1 k G (σ 0) (σ 1) (σ 4) (σ 5) (σ 6) (σ 11) (σ 12) (σ 13) (σ 14) (σ 35) h := (kgroups_cons (fun σ h => g8_2_eq k G σ h)).trans (g8_1_eq0 k G σ h)
@[simp] def g8_0 {R : Type} (k : Nat) (G : KT8 R) (v0 v1 v4 v5 v6 v9 v11 v12 v13 v14 : GV) (h : Heap) : Option R := (kun .not v9).bind fun v34 => g8_1 k G v0 v1 v4 v5 v6 v11 v12 v13 v14 v34 h
theorem g8_0_eq0 {R : Type} (k : Nat) (G : KT8 R) (σ : GS) (h : Heap) : kgroup1 PP cfg NN HH 63 o8 (none, [0, 1, 2]) σ h (fun σ h => g8_1 k G (σ 0) (σ 1) (σ 4) (σ 5) (σ 6) (σ 11) (σ 12) (σ 13) (σ 14) (σ 35) h) = g8_0 k G (σ 0) (σ 1) (σ 4) (σ 5) (σ 6) (σ 9) (σ 11) (σ 12) (σ 13) (σ 14) h := by kernel_rfl
theorem g8_0_eq {R : Type} (k : Nat) (G : KT8 R) (σ : GS) (h : Heap) : kgroups PP cfg NN HH 63 o8 [(none, [0, 1, 2]), (some (2, false), [3, 4]), (none, [5, 6]), (some (6, false), [7, 8]), (none, [9, 10]), (some (10, false), [11, 12, 13, 14, 15, 16]), (none, [17])] σ h (fun σ h => G .nrm (σ 0) (σ 1) (σ 4) (σ 5) (σ 6) (σ 11) (σ 13) (σ 50) h) = g8_0 k G (σ 0) (σ 1) (σ 4) (σ 5) (σ 6) (σ 9) (σ 11) (σ 12) (σ 13) (σ 14) h := (kgroups_cons (fun σ h => g8_1_eq k G σ h)).trans (g8_0_eq0 k G σ h)
@[simp] def n8 {R : Type} (k : Nat) (G : KT8 R) (v0 v1 v4 v5 v6 v9 v11 v12 v13 v14 : GV) (h : Heap) : Option R := g8_0 k G v0 v1 v4 v5 v6 v9 v11 v12 v13 v14 h
theorem n8_eq {R : Type} (k : Nat) (G : KT8 R) (σ : GS) (h : Heap) : KC k 63 c8 σ h (fun x σ h => G x (σ 0) (σ 1) (σ 4) (σ 5) (σ 6) (σ 11) (σ 13) (σ 50) h) = n8 k G (σ 0) (σ 1) (σ 4) (σ 5) (σ 6) (σ 9) (σ 11) (σ 12) (σ 13) (σ 14) h := (kregion_eq (id := 4) (draw := false) (ops := o8) (gs := [(none, [0, 1, 2]), (some (2, false), [3, 4]), (none, [5, 6]), (some (6, false), [7, 8]), (none, [9, 10]), (some (10, false), [11, 12, 13, 14, 15, 16]), (none, [17])]) (by kernel_rfl) (by kernel_rfl) (by kernel_rfl)).trans (g8_0_eq k G σ h)
@[simp] def n6 {R : Type} (k : Nat) (G : KT7 R) (v0 v1 v4 v5 v6 v9 v11 v12 v13 v14 : GV) (h : Heap) : Option R := n8 k (fun x v0 v1 v4 v5 v6 v11 v13 v50 h => kx x (n7 k G v0 v1 v4 v5 v6 v11 v13 v50 h) (G x v0 v1 v4 v5 v6 v11 v13 h)) v0 v1 v4 v5 v6 v9 v11 v12 v13 v14 h
theorem n6_eq {R : Type} (k : Nat) (G : KT7 R) (σ : GS) (h : Heap) : KC k 63 c6 σ h (fun x σ h => G x (σ 0) (σ 1) (σ 4) (σ 5) (σ 6) (σ 11) (σ 13) h) = n6 k G (σ 0) (σ 1) (σ 4) (σ 5) (σ 6) (σ 9) (σ 11) (σ 12) (σ 13) (σ 14) h := (kseq (b := c7) rfl (fun σ h => n7_eq k G σ h)).trans (n8_eq k (fun x v0 v1 v4 v5 v6 v11 v13 v50 h => kx x (n7 k G v0 v1 v4 v5 v6 v11 v13 v50 h) (G x v0 v1 v4 v5 v6 v11 v13 h)) σ h)
@[simp] def n4 {R : Type} (k : Nat) (G : KT3 R) (v0 v1 v4 v5 v6 v9 v11 v12 v13 v14 : GV) (h : Heap) : Option R := n6 k (fun x v0 v1 v4 v5 v6 v11 v13 h => kx x (n5 k G v0 v1 v4 v5 v6 v11 v13 h) (G x v4 v5 v6 h)) v0 v1 v4 v5 v6 v9 v11 v12 v13 v14 h
theorem n4_eq {R : Type} (k : Nat) (G : KT3 R) (σ : GS) (h : Heap) : KC k 63 c4 σ h (fun x σ h => G x (σ 4) (σ 5) (σ 6) h) = n4 k G (σ 0) (σ 1) (σ 4) (σ 5) (σ 6) (σ 9) (σ 11) (σ 12) (σ 13) (σ 14) h := (kseq (b := c5) rfl (fun σ h => n5_eq k G σ h)).trans (n6_eq k (fun x v0 v1 v4 v5 v6 v11 v13 h => kx x (n5 k G v0 v1 v4 v5 v6 v11 v13 h) (G x v4 v5 v6 h)) σ h)
noncomputable def c9 : Code := cL c3
@[simp] def n3 {R : Type} (k : Nat) (G : KT3 R) (v0 v1 v4 v5 v6 v7 v9 v11 v12 : GV) (h : Heap) : Option R := (kN NN fn.strconv_ParseInt [v7, (.int .i64 10), (.int .i64 64)] h).bind fun v30 => (kxt 0 v30).bind fun v31 => (kxt 1 v30).bind fun v32 => n4 k G v0 v1 v4 v5 v6 v9 v11 v12 v31 v32 h
theorem n3_eq0 {R : Type} (k : Nat) (G : KT3 R) (σ : GS) (h : Heap) : KC k 63 c9 σ h (fun x σ h => kx x (n4 k G (σ 0) (σ 1) (σ 4) (σ 5) (σ 6) (σ 9) (σ 11) (σ 12) (σ 13) (σ 14) h) (G x (σ 4) (σ 5) (σ 6) h)) = n3 k G (σ 0) (σ 1) (σ 4) (σ 5) (σ 6) (σ 7) (σ 9) (σ 11) (σ 12) h := by kernel_rfl
theorem n3_eq {R : Type} (k : Nat) (G : KT3 R) (σ : GS) (h : Heap) : KC k 63 c3 σ h (fun x σ h => G x (σ 4) (σ 5) (σ 6) h) = n3 k G (σ 0) (σ 1) (σ 4) (σ 5) (σ 6) (σ 7) (σ 9) (σ 11) (σ 12) h := (kseq (b := c4) rfl (fun σ h => n4_eq k G σ h)).trans (n3_eq0 k G σ h)
noncomputable def c10 : Code := cL c2
@[simp] def n2 {R : Type} (k : Nat) (G : KT3 R) (v0 v1 v4 v5 v6 v7 v8 v9 : GV) (h : Heap) : Option R := (kN NN fn.strings_Cut [v8, (.str { data := #[32] })] h).bind fun v24 => (kxt 0 v24).bind fun v25 => (kxt 1 v24).bind fun v26 => (kxt 2 v24).bind fun v27 => n3 k G v0 v1 v4 v5 v6 v7 v9 v26 v27 h
theorem n2_eq0 {R : Type} (k : Nat) (G : KT3 R) (σ : GS) (h : Heap) : KC k 63 c10 σ h (fun x σ h => kx x (n3 k G (σ 0) (σ 1) (σ 4) (σ 5) (σ 6) (σ 7) (σ 9) (σ 11) (σ 12) h) (G x (σ 4) (σ 5) (σ 6) h)) = n2 k G (σ 0) (σ 1) (σ 4) (σ 5) (σ 6) (σ 7) (σ 8) (σ 9) h := by kernel_rfl
theorem n2_eq {R : Type} (k : Nat) (G : KT3 R) (σ : GS) (h : Heap) : KC k 63 c2 σ h (fun x σ h => G x (σ 4) (σ 5) (σ 6) h) = n2 k G (σ 0) (σ 1) (σ 4) (σ 5) (σ 6) (σ 7) (σ 8) (σ 9) h := (kseq (b := c3) rfl (fun σ h => n3_eq k G σ h)).trans (n2_eq0 k G σ h)
noncomputable def c11 : Code := cL c1
@[simp] def n1 {R : Type} (k : Nat) (G : KT3 R) (v0 v1 v4 v5 v6 : GV) (h : Heap) : Option R := (kN NN fn.strings_Cut [v1, (.str { data := #[32] })] h).bind fun v18 => (kxt 0 v18).bind fun v19 => (kxt 1 v18).bind fun v20 => (kxt 2 v18).bind fun v21 => n2 k G v0 v1 v4 v5 v6 v19 v20 v21 h
theorem n1_eq0 {R : Type} (k : Nat) (G : KT3 R) (σ : GS) (h : Heap) : KC k 63 c11 σ h (fun x σ h => kx x (n2 k G (σ 0) (σ 1) (σ 4) (σ 5) (σ 6) (σ 7) (σ 8) (σ 9) h) (G x (σ 4) (σ 5) (σ 6) h)) = n1 k G (σ 0) (σ 1) (σ 4) (σ 5) (σ 6) h := by kernel_rfl
theorem n1_eq {R : Type} (k : Nat) (G : KT3 R) (σ : GS) (h : Heap) : KC k 63 c1 σ h (fun x σ h => G x (σ 4) (σ 5) (σ 6) h) = n1 k G (σ 0) (σ 1) (σ 4) (σ 5) (σ 6) h := (kseq (b := c2) rfl (fun σ h => n2_eq k G σ h)).trans (n1_eq0 k G σ h)
noncomputable def c12 : Code := cL c0
@[simp] def n0 {R : Type} (k : Nat) (G : KT3 R) (v0 v1 : GV) (h : Heap) : Option R := n1 k G v0 v1 (.int .i64 0) (.str { data := #[] }) (.bool false) h
theorem n0_eq0 {R : Type} (k : Nat) (G : KT3 R) (σ : GS) (h : Heap) : KC k 63 c12 σ h (fun x σ h => kx x (n1 k G (σ 0) (σ 1) (σ 4) (σ 5) (σ 6) h) (G x (σ 4) (σ 5) (σ 6) h)) = n0 k G (σ 0) (σ 1) h := by kernel_rfl
theorem n0_eq {R : Type} (k : Nat) (G : KT3 R) (σ : GS) (h : Heap) : KC k 63 c0 σ h (fun x σ h => G x (σ 4) (σ 5) (σ 6) h) = n0 k G (σ 0) (σ 1) h := (kseq (b := c1) rfl (fun σ h => n1_eq k G σ h)).trans (n0_eq0 k G σ h)
def run {R : Type} (k : Nat) (a0 : GV) (a1 : GV) (h : Heap) (fin : GV → Heap → Option R) : Option R := n0 k (fun x v4 v5 v6 h => kend x (fin (.tup [v4, v5, v6]) h)) a0 a1 h
theorem run_eq {R : Type} (k : Nat) (a0 : GV) (a1 : GV) (h : Heap) (fin : GV → Heap → Option R) : kfun PP cfg NN HH k fn.impl_Opened [a0, a1] h fin = run k a0 a1 h fin := (kfun_eq (nt := 63) (c := c0) (show PP.funcs[fn.impl_Opened]? = some Tryd.f23 by kernel_rfl) (by kernel_rfl) (by kernel_rfl) (fun x σ h => by cases x <;> kernel_rfl)).trans (n0_eq k (fun x v4 v5 v6 h => kend x (fin (.tup [v4, v5, v6]) h)) _ h)
theorem gives {k : Nat} {a0 : GV} {a1 : GV} {v : GV} (e : run k a0 a1 [] finN = some v) : NN fn.impl_Opened [a0, a1] = some v := nω_of (by kernel_rfl) ((run_eq k a0 a1 [] finN).trans e)
end S.impl_Opened
/-! spec_Opened -/
namespace S.spec_Opened
noncomputable def c0 : Code := bodyOf Tryd.f22
noncomputable def c1 : Code := cR c0
noncomputable def c2 : Code := cR c1
noncomputable def c3 : Code := cR c2
noncomputable def c4 : Code := cR c3
noncomputable def c5 : Code := cR c4
noncomputable def c6 : Code := cR c5
noncomputable def c7 : Code := cR c6
@[simp] def n7 {R : Type} (k : Nat) (G : KT3 R) (v0 v1 v4 v5 v6 v7 v9 : GV) (h : Heap) : Option R := (kbin .add v9 (.int .i64 1)).bind fun v77 => (kslS v1 (some v77) none none).bind fun v78 => (klenS v78).bind fun v83 => (kN NN fn.spec_Stream [v0, v7, v83] h).bind fun v84 => (kN NN fn.spec_l14Xor [v78, v84] h).bind fun v85 => (kN NN fn.spec_Sealed [v0, v7, v85] h).bind fun v89 => (kbin .neq v89 v1).bind fun v91 => kcond v91 (G .ret (.int .i64 (-1)) (.str { data := #[] }) (.bool false) h) (G .ret v7 v85 (.bool true) h)
theorem n7_eq {R : Type} (k : Nat) (G : KT3 R) (σ : GS) (h : Heap) : KC k 94 c7 σ h (fun x σ h => G x (σ 4) (σ 5) (σ 6) h) = n7 k G (σ 0) (σ 1) (σ 4) (σ 5) (σ 6) (σ 7) (σ 9) h := by kernel_rfl
noncomputable def c8 : Code := cL c6
noncomputable def c9 : Code := cR c8
@[simp] def n9 {R : Type} (k : Nat) (G : KT7 R) (v0 v1 v4 v5 v6 v7 v9 v74 : GV) (h : Heap) : Option R := kcond v74 (G .ret v0 v1 (.int .i64 (-1)) (.str { data := #[] }) (.bool false) v7 v9 h) (G .nrm v0 v1 v4 v5 v6 v7 v9 h)
theorem n9_eq {R : Type} (k : Nat) (G : KT7 R) (σ : GS) (h : Heap) : KC k 94 c9 σ h (fun x σ h => G x (σ 0) (σ 1) (σ 4) (σ 5) (σ 6) (σ 7) (σ 9) h) = n9 k G (σ 0) (σ 1) (σ 4) (σ 5) (σ 6) (σ 7) (σ 9) (σ 74) h := by kernel_rfl
noncomputable def c10 : Code := cL c8
noncomputable def o10 : Array Oper := cO c10
@[simp] def g10_4 {R : Type} (k : Nat) (G : KT8 R) (v0 v1 v4 v5 v6 v7 v9 v64 v73 : GV) (h : Heap) : Option R := (kpick v64 (.bool true) v73).bind fun v74 => G .nrm v0 v1 v4 v5 v6 v7 v9 v74 h
theorem g10_4_eq {R : Type} (k : Nat) (G : KT8 R) (σ : GS) (h : Heap) : kgroups PP cfg NN HH 94 o10 [(none, [18])] σ h (fun σ h => G .nrm (σ 0) (σ 1) (σ 4) (σ 5) (σ 6) (σ 7) (σ 9) (σ 74) h) = g10_4 k G (σ 0) (σ 1) (σ 4) (σ 5) (σ 6) (σ 7) (σ 9) (σ 64) (σ 73) h := by kernel_rfl
@[simp] def g10_3 {R : Type} (k : Nat) (G : KT8 R) (v0 v1 v4 v5 v6 v7 v9 v64 : GV) (h : Heap) : Option R := bif tr false v64 then (klenS v1).bind fun v68 => (kbin .sub v68 v9).bind fun v70 => (kbin .sub v70 (.int .i64 1)).bind fun v71 => (kN NN fn.spec_l14Told [v0, v7, v71] h).bind fun v72 => (kun .not v72).bind fun v73 => g10_4 k G v0 v1 v4 v5 v6 v7 v9 v64 v73 h else g10_4 k G v0 v1 v4 v5 v6 v7 v9 v64 .un h
theorem g10_3_eq0 {R : Type} (k : Nat) (G : KT8 R) (σ : GS) (h : Heap) : kgroup1 PP cfg NN HH 94 o10 (some (8, false), [9, 10, 11, 12, 13, 14, 15, 16, 17]) σ h (fun σ h => g10_4 k G (σ 0) (σ 1) (σ 4) (σ 5) (σ 6) (σ 7) (σ 9) (σ 64) (σ 73) h) = g10_3 k G (σ 0) (σ 1) (σ 4) (σ 5) (σ 6) (σ 7) (σ 9) (σ 64) h := by kernel_rfl
theorem g10_3_eq {R : Type} (k : Nat) (G : KT8 R) (σ : GS) (h : Heap) : kgroups PP cfg NN HH 94 o10 [(some (8, false), [9, 10, 11, 12, 13, 14, 15, 16, 17]), (none, [18])] σ h (fun σ h => G .nrm (σ 0) (σ 1) (σ 4) (σ 5) (σ 6) (σ 7) (σ 9) (σ 74) h) = g10_3 k G (σ 0) (σ 1) (σ 4) (σ 5) (σ 6) (σ 7) (σ 9) (σ 64) h := (kgroups_cons (fun σ h => g10_4_eq k G σ h)).trans (g10_3_eq0 k G σ h)
@[simp] def g10_2 {R : Type} (k : Nat) (G : KT8 R) (v0 v1 v4 v5 v6 v7 v9 v58 v62 : GV) (h : Heap) : Option R := (kpick v58 (.bool true) v62).bind fun v63 => g10_3 k G v0 v1 v4 v5 v6 v7 v9 v63 h
theorem g10_2_eq0 {R : Type} (k : Nat) (G : KT8 R) (σ : GS) (h : Heap) : kgroup1 PP cfg NN HH 94 o10 (none, [7, 8]) σ h (fun σ h => g10_3 k G (σ 0) (σ 1) (σ 4) (σ 5) (σ 6) (σ 7) (σ 9) (σ 64) h) = g10_2 k G (σ 0) (σ 1) (σ 4) (σ 5) (σ 6) (σ 7) (σ 9) (σ 58) (σ 62) h := by kernel_rfl
theorem g10_2_eq {R : Type} (k : Nat) (G : KT8 R) (σ : GS) (h : Heap) : kgroups PP cfg NN HH 94 o10 [(none, [7, 8]), (some (8, false), [9, 10, 11, 12, 13, 14, 15, 16, 17]), (none, [18])] σ h (fun σ h => G .nrm (σ 0) (σ 1) (σ 4) (σ 5) (σ 6) (σ 7) (σ 9) (σ 74) h) = g10_2 k G (σ 0) (σ 1) (σ 4) (σ 5) (σ 6) (σ 7) (σ 9) (σ 58) (σ 62) h := (kgroups_cons (fun σ h => g10_3_eq k G σ h)).trans (g10_2_eq0 k G σ h)
@[simp] def g10_1 {R : Type} (k : Nat) (G : KT8 R) (v0 v1 v4 v5 v6 v7 v9 v58 : GV) (h : Heap) : Option R := bif tr false v58 then (klenS v1).bind fun v61 => (kbin .geq v9 v61).bind fun v62 => g10_2 k G v0 v1 v4 v5 v6 v7 v9 v58 v62 h else g10_2 k G v0 v1 v4 v5 v6 v7 v9 v58 .un h
theorem g10_1_eq0 {R : Type} (k : Nat) (G : KT8 R) (σ : GS) (h : Heap) : kgroup1 PP cfg NN HH 94 o10 (some (2, false), [3, 4, 5, 6]) σ h (fun σ h => g10_2 k G (σ 0) (σ 1) (σ 4) (σ 5) (σ 6) (σ 7) (σ 9) (σ 58) (σ 62) h) = g10_1 k G (σ 0) (σ 1) (σ 4) (σ 5) (σ 6) (σ 7) (σ 9) (σ 58) h := by kernel_rfl
theorem g10_1_eq {R : Type} (k : Nat) (G : KT8 R) (σ : GS) (h : Heap) : kgroups PP cfg NN HH 94 o10 [(some (2, false), [3, 4, 5, 6]), (none, [7, 8]), (some (8, false), [9, 10, 11, 12, 13, 14, 15, 16, 17]), (none, [18])] σ h (fun σ h => G .nrm (σ 0) (σ 1) (σ 4) (σ 5) (σ 6) (σ 7) (σ 9) (σ 74) h) = g10_1 k G (σ 0) (σ 1) (σ 4) (σ 5) (σ 6) (σ 7) (σ 9) (σ 58) h := (kgroups_cons (fun σ h => g10_2_eq k G σ h)).trans (g10_1_eq0 k G σ h)
@[simp] def g10_0 {R : Type} (k : Nat) (G : KT8 R) (v0 v1 v4 v5 v6 v7 v8 v9 : GV) (h : Heap) : Option R := (kbin .eql v8 (.int .i64 0)).bind fun v57 => g10_1 k G v0 v1 v4 v5 v6 v7 v9 v57 h
theorem g10_0_eq0 {R : Type} (k : Nat) (G : KT8 R) (σ : GS) (h : Heap) : kgroup1 PP cfg NN HH 94 o10 (none, [0, 1, 2]) σ h (fun σ h => g10_1 k G (σ 0) (σ 1) (σ 4) (σ 5) (σ 6) (σ 7) (σ 9) (σ 58) h) = g10_0 k G (σ 0) (σ 1) (σ 4) (σ 5) (σ 6) (σ 7) (σ 8) (σ 9) h := by kernel_rfl
theorem g10_0_eq {R : Type} (k : Nat) (G : KT8 R) (σ : GS) (h : Heap) : kgroups PP cfg NN HH 94 o10 [(none, [0, 1, 2]), (some (2, false), [3, 4, 5, 6]), (none, [7, 8]), (some (8, false), [9, 10, 11, 12, 13, 14, 15, 16, 17]), (none, [18])] σ h (fun σ h => G .nrm (σ 0) (σ 1) (σ 4) (σ 5) (σ 6) (σ 7) (σ 9) (σ 74) h) = g10_0 k G (σ 0) (σ 1) (σ 4) (σ 5) (σ 6) (σ 7) (σ 8) (σ 9) h := (kgroups_cons (fun σ h => g10_1_eq k G σ h)).trans (g10_0_eq0 k G σ h)
@[simp] def n10 {R : Type} (k : Nat) (G : KT8 R) (v0 v1 v4 v5 v6 v7 v8 v9 : GV) (h : Heap) : Option R := g10_0 k G v0 v1 v4 v5 v6 v7 v8 v9 h
theorem n10_eq {R : Type} (k : Nat) (G : KT8 R) (σ : GS) (h : Heap) : KC k 94 c10 σ h (fun x σ h => G x (σ 0) (σ 1) (σ 4) (σ 5) (σ 6) (σ 7) (σ 9) (σ 74) h) = n10 k G (σ 0) (σ 1) (σ 4) (σ 5) (σ 6) (σ 7) (σ 8) (σ 9) h := (kregion_eq (id := 9) (draw := false) (ops := o10) (gs := [(none, [0, 1, 2]), (some (2, false), [3, 4, 5, 6]), (none, [7, 8]), (some (8, false), [9, 10, 11, 12, 13, 14, 15, 16, 17]), (none, [18])]) (by kernel_rfl) (by kernel_rfl) (by kernel_rfl)).trans (g10_0_eq k G σ h)
@[simp] def n8 {R : Type} (k : Nat) (G : KT7 R) (v0 v1 v4 v5 v6 v7 v8 v9 : GV) (h : Heap) : Option R := n10 k (fun x v0 v1 v4 v5 v6 v7 v9 v74 h => kx x (n9 k G v0 v1 v4 v5 v6 v7 v9 v74 h) (G x v0 v1 v4 v5 v6 v7 v9 h)) v0 v1 v4 v5 v6 v7 v8 v9 h
theorem n8_eq {R : Type} (k : Nat) (G : KT7 R) (σ : GS) (h : Heap) : KC k 94 c8 σ h (fun x σ h => G x (σ 0) (σ 1) (σ 4) (σ 5) (σ 6) (σ 7) (σ 9) h) = n8 k G (σ 0) (σ 1) (σ 4) (σ 5) (σ 6) (σ 7) (σ 8) (σ 9) h := (kseq (b := c9) rfl (fun σ h => n9_eq k G σ h)).trans (n10_eq k (fun x v0 v1 v4 v5 v6 v7 v9 v74 h => kx x (n9 k G v0 v1 v4 v5 v6 v7 v9 v74 h) (G x v0 v1 v4 v5 v6 v7 v9 h)) σ h)
@[simp] def n6 {R : Type} (k : Nat) (G : KT3 R) (v0 v1 v4 v5 v6 v7 v8 v9 : GV) (h : Heap) : Option R := n8 k (fun x v0 v1 v4 v5 v6 v7 v9 h => kx x (n7 k G v0 v1 v4 v5 v6 v7 v9 h) (G x v4 v5 v6 h)) v0 v1 v4 v5 v6 v7 v8 v9 h
theorem n6_eq {R : Type} (k : Nat) (G : KT3 R) (σ : GS) (h : Heap) : KC k 94 c6 σ h (fun x σ h => G x (σ 4) (σ 5) (σ 6) h) = n6 k G (σ 0) (σ 1) (σ 4) (σ 5) (σ 6) (σ 7) (σ 8) (σ 9) h := (kseq (b := c7) rfl (fun σ h => n7_eq k G σ h)).trans (n8_eq k (fun x v0 v1 v4 v5 v6 v7 v9 h => kx x (n7 k G v0 v1 v4 v5 v6 v7 v9 h) (G x v4 v5 v6 h)) σ h)
noncomputable def c11 : Code := cL c5
noncomputable def c12 : Code := cL c11
noncomputable def c13 : Code := cL c12
noncomputable def c14 : Code := cR c13
noncomputable def c15 : Code := cL c14
@[simp] def n15 {R : Type} (k : Nat) (G : KT8 R) (v0 v1 v4 v5 v6 v7 v8 v9 : GV) (h : Heap) : Option R := (kbin .add v9 (.int .i64 1)).bind fun v55 => G .nrm v0 v1 v4 v5 v6 v7 v8 v55 h
theorem n15_eq {R : Type} (k : Nat) (G : KT8 R) (σ : GS) (h : Heap) : KC k 94 c15 σ h (fun x σ h => G x (σ 0) (σ 1) (σ 4) (σ 5) (σ 6) (σ 7) (σ 8) (σ 9) h) = n15 k G (σ 0) (σ 1) (σ 4) (σ 5) (σ 6) (σ 7) (σ 8) (σ 9) h := by kernel_rfl
@[simp] def n14 {R : Type} (k : Nat) (G : KT8 R) (v0 v1 v4 v5 v6 v7 v8 v9 : GV) (h : Heap) : Option R := n15 k (fun x v0 v1 v4 v5 v6 v7 v8 v9 h => kb 3 x fun x => G x v0 v1 v4 v5 v6 v7 v8 v9 h) v0 v1 v4 v5 v6 v7 v8 v9 h
theorem n14_eq {R : Type} (k : Nat) (G : KT8 R) (σ : GS) (h : Heap) : KC k 94 c14 σ h (fun x σ h => G x (σ 0) (σ 1) (σ 4) (σ 5) (σ 6) (σ 7) (σ 8) (σ 9) h) = n14 k G (σ 0) (σ 1) (σ 4) (σ 5) (σ 6) (σ 7) (σ 8) (σ 9) h := (kblock_eq (a := c15) rfl).trans (n15_eq k (fun x v0 v1 v4 v5 v6 v7 v8 v9 h => kb 3 x fun x => G x v0 v1 v4 v5 v6 v7 v8 v9 h) σ h)
noncomputable def c16 : Code := cL c13
noncomputable def c17 : Code := cR c16
@[simp] def n17 {R : Type} (k : Nat) (G : KT8 R) (v0 v1 v4 v5 v6 v7 v8 v9 v53 : GV) (h : Heap) : Option R := kcond v53 (G .nrm v0 v1 v4 v5 v6 v7 v8 v9 h) (G (.ext 2) v0 v1 v4 v5 v6 v7 v8 v9 h)
theorem n17_eq {R : Type} (k : Nat) (G : KT8 R) (σ : GS) (h : Heap) : KC k 94 c17 σ h (fun x σ h => G x (σ 0) (σ 1) (σ 4) (σ 5) (σ 6) (σ 7) (σ 8) (σ 9) h) = n17 k G (σ 0) (σ 1) (σ 4) (σ 5) (σ 6) (σ 7) (σ 8) (σ 9) (σ 53) h := by kernel_rfl
noncomputable def c18 : Code := cL c16
noncomputable def o18 : Array Oper := cO c18
@[simp] def g18_2 {R : Type} (k : Nat) (G : KT9 R) (v0 v1 v4 v5 v6 v7 v8 v9 v48 v52 : GV) (h : Heap) : Option R := (kpick v48 v52 (.bool false)).bind fun v53 => G .nrm v0 v1 v4 v5 v6 v7 v8 v9 v53 h
theorem g18_2_eq {R : Type} (k : Nat) (G : KT9 R) (σ : GS) (h : Heap) : kgroups PP cfg NN HH 94 o18 [(none, [9])] σ h (fun σ h => G .nrm (σ 0) (σ 1) (σ 4) (σ 5) (σ 6) (σ 7) (σ 8) (σ 9) (σ 53) h) = g18_2 k G (σ 0) (σ 1) (σ 4) (σ 5) (σ 6) (σ 7) (σ 8) (σ 9) (σ 48) (σ 52) h := by kernel_rfl
@[simp] def g18_1 {R : Type} (k : Nat) (G : KT9 R) (v0 v1 v4 v5 v6 v7 v8 v9 v48 : GV) (h : Heap) : Option R := bif tr true v48 then (kbyte v1 v9).bind fun v51 => (kbin .neq v51 (.int .u8 32)).bind fun v52 => g18_2 k G v0 v1 v4 v5 v6 v7 v8 v9 v48 v52 h else g18_2 k G v0 v1 v4 v5 v6 v7 v8 v9 v48 .un h
theorem g18_1_eq0 {R : Type} (k : Nat) (G : KT9 R) (σ : GS) (h : Heap) : kgroup1 PP cfg NN HH 94 o18 (some (4, true), [5, 6, 7, 8]) σ h (fun σ h => g18_2 k G (σ 0) (σ 1) (σ 4) (σ 5) (σ 6) (σ 7) (σ 8) (σ 9) (σ 48) (σ 52) h) = g18_1 k G (σ 0) (σ 1) (σ 4) (σ 5) (σ 6) (σ 7) (σ 8) (σ 9) (σ 48) h := by kernel_rfl
theorem g18_1_eq {R : Type} (k : Nat) (G : KT9 R) (σ : GS) (h : Heap) : kgroups PP cfg NN HH 94 o18 [(some (4, true), [5, 6, 7, 8]), (none, [9])] σ h (fun σ h => G .nrm (σ 0) (σ 1) (σ 4) (σ 5) (σ 6) (σ 7) (σ 8) (σ 9) (σ 53) h) = g18_1 k G (σ 0) (σ 1) (σ 4) (σ 5) (σ 6) (σ 7) (σ 8) (σ 9) (σ 48) h := (kgroups_cons (fun σ h => g18_2_eq k G σ h)).trans (g18_1_eq0 k G σ h)
@[simp] def g18_0 {R : Type} (k : Nat) (G : KT9 R) (v0 v1 v4 v5 v6 v7 v8 v9 : GV) (h : Heap) : Option R := (klenS v1).bind fun v46 => (kbin .lss v9 v46).bind fun v47 => g18_1 k G v0 v1 v4 v5 v6 v7 v8 v9 v47 h
theorem g18_0_eq0 {R : Type} (k : Nat) (G : KT9 R) (σ : GS) (h : Heap) : kgroup1 PP cfg NN HH 94 o18 (none, [0, 1, 2, 3, 4]) σ h (fun σ h => g18_1 k G (σ 0) (σ 1) (σ 4) (σ 5) (σ 6) (σ 7) (σ 8) (σ 9) (σ 48) h) = g18_0 k G (σ 0) (σ 1) (σ 4) (σ 5) (σ 6) (σ 7) (σ 8) (σ 9) h := by kernel_rfl
theorem g18_0_eq {R : Type} (k : Nat) (G : KT9 R) (σ : GS) (h : Heap) : kgroups PP cfg NN HH 94 o18 [(none, [0, 1, 2, 3, 4]), (some (4, true), [5, 6, 7, 8]), (none, [9])] σ h (fun σ h => G .nrm (σ 0) (σ 1) (σ 4) (σ 5) (σ 6) (σ 7) (σ 8) (σ 9) (σ 53) h) = g18_0 k G (σ 0) (σ 1) (σ 4) (σ 5) (σ 6) (σ 7) (σ 8) (σ 9) h := (kgroups_cons (fun σ h => g18_1_eq k G σ h)).trans (g18_0_eq0 k G σ h)
@[simp] def n18 {R : Type} (k : Nat) (G : KT9 R) (v0 v1 v4 v5 v6 v7 v8 v9 : GV) (h : Heap) : Option R := g18_0 k G v0 v1 v4 v5 v6 v7 v8 v9 h
theorem n18_eq {R : Type} (k : Nat) (G : KT9 R) (σ : GS) (h : Heap) : KC k 94 c18 σ h (fun x σ h => G x (σ 0) (σ 1) (σ 4) (σ 5) (σ 6) (σ 7) (σ 8) (σ 9) (σ 53) h) = n18 k G (σ 0) (σ 1) (σ 4) (σ 5) (σ 6) (σ 7) (σ 8) (σ 9) h := (kregion_eq (id := 7) (draw := false) (ops := o18) (gs := [(none, [0, 1, 2, 3, 4]), (some (4, true), [5, 6, 7, 8]), (none, [9])]) (by kernel_rfl) (by kernel_rfl) (by kernel_rfl)).trans (g18_0_eq k G σ h)
@[simp] def n16 {R : Type} (k : Nat) (G : KT8 R) (v0 v1 v4 v5 v6 v7 v8 v9 : GV) (h : Heap) : Option R := n18 k (fun x v0 v1 v4 v5 v6 v7 v8 v9 v53 h => kx x (n17 k G v0 v1 v4 v5 v6 v7 v8 v9 v53 h) (G x v0 v1 v4 v5 v6 v7 v8 v9 h)) v0 v1 v4 v5 v6 v7 v8 v9 h
theorem n16_eq {R : Type} (k : Nat) (G : KT8 R) (σ : GS) (h : Heap) : KC k 94 c16 σ h (fun x σ h => G x (σ 0) (σ 1) (σ 4) (σ 5) (σ 6) (σ 7) (σ 8) (σ 9) h) = n16 k G (σ 0) (σ 1) (σ 4) (σ 5) (σ 6) (σ 7) (σ 8) (σ 9) h := (kseq (b := c17) rfl (fun σ h => n17_eq k G σ h)).trans (n18_eq k (fun x v0 v1 v4 v5 v6 v7 v8 v9 v53 h => kx x (n17 k G v0 v1 v4 v5 v6 v7 v8 v9 v53 h) (G x v0 v1 v4 v5 v6 v7 v8 v9 h)) σ h)
@[simp] def n13 {R : Type} (k : Nat) (G : KT8 R) (v0 v1 v4 v5 v6 v7 v8 v9 : GV) (h : Heap) : Option R := n16 k (fun x v0 v1 v4 v5 v6 v7 v8 v9 h => kx x (n14 k G v0 v1 v4 v5 v6 v7 v8 v9 h) (G x v0 v1 v4 v5 v6 v7 v8 v9 h)) v0 v1 v4 v5 v6 v7 v8 v9 h
theorem n13_eq {R : Type} (k : Nat) (G : KT8 R) (σ : GS) (h : Heap) : KC k 94 c13 σ h (fun x σ h => G x (σ 0) (σ 1) (σ 4) (σ 5) (σ 6) (σ 7) (σ 8) (σ 9) h) = n13 k G (σ 0) (σ 1) (σ 4) (σ 5) (σ 6) (σ 7) (σ 8) (σ 9) h := (kseq (b := c14) rfl (fun σ h => n14_eq k G σ h)).trans (n16_eq k (fun x v0 v1 v4 v5 v6 v7 v8 v9 h => kx x (n14 k G v0 v1 v4 v5 v6 v7 v8 v9 h) (G x v0 v1 v4 v5 v6 v7 v8 v9 h)) σ h)
def l12 {R : Type} (k : Nat) (G : KT8 R) : Nat → GV → GV → GV → GV → GV → GV → GV → GV → Heap → Option R
  | 0, _, _, _, _, _, _, _, _, _ => none
  | r + 1, v0, v1, v4, v5, v6, v7, v8, v9, h => n13 k (fun x v0 v1 v4 v5 v6 v7 v8 v9 h => kx x (l12 k G r v0 v1 v4 v5 v6 v7 v8 v9 h) (G x v0 v1 v4 v5 v6 v7 v8 v9 h)) v0 v1 v4 v5 v6 v7 v8 v9 h
theorem l12_eq {R : Type} (k : Nat) (G : KT8 R) : ∀ (r : Nat) (σ : GS) (h : Heap), kloop (fun σ h K => KC k 94 c13 σ h K) r σ h (fun x σ h => G x (σ 0) (σ 1) (σ 4) (σ 5) (σ 6) (σ 7) (σ 8) (σ 9) h) = l12 k G r (σ 0) (σ 1) (σ 4) (σ 5) (σ 6) (σ 7) (σ 8) (σ 9) h
  | 0, _, _ => rfl
  | r + 1, σ, h => (kloop_eq (fun σ h => l12_eq k G r σ h)).trans (n13_eq k (fun x v0 v1 v4 v5 v6 v7 v8 v9 h => kx x (l12 k G r v0 v1 v4 v5 v6 v7 v8 v9 h) (G x v0 v1 v4 v5 v6 v7 v8 v9 h)) σ h)
@[simp] def n12 {R : Type} (k : Nat) (G : KT8 R) (v0 v1 v4 v5 v6 v7 v8 v9 : GV) (h : Heap) : Option R := l12 k G k v0 v1 v4 v5 v6 v7 v8 v9 h
theorem n12_eq {R : Type} (k : Nat) (G : KT8 R) (σ : GS) (h : Heap) : KC k 94 c12 σ h (fun x σ h => G x (σ 0) (σ 1) (σ 4) (σ 5) (σ 6) (σ 7) (σ 8) (σ 9) h) = n12 k G (σ 0) (σ 1) (σ 4) (σ 5) (σ 6) (σ 7) (σ 8) (σ 9) h := (kloopc_eq (a := c13) rfl).trans (l12_eq k G k σ h)
@[simp] def n11 {R : Type} (k : Nat) (G : KT8 R) (v0 v1 v4 v5 v6 v7 v8 v9 : GV) (h : Heap) : Option R := n12 k (fun x v0 v1 v4 v5 v6 v7 v8 v9 h => kb 2 x fun x => G x v0 v1 v4 v5 v6 v7 v8 v9 h) v0 v1 v4 v5 v6 v7 v8 v9 h
theorem n11_eq {R : Type} (k : Nat) (G : KT8 R) (σ : GS) (h : Heap) : KC k 94 c11 σ h (fun x σ h => G x (σ 0) (σ 1) (σ 4) (σ 5) (σ 6) (σ 7) (σ 8) (σ 9) h) = n11 k G (σ 0) (σ 1) (σ 4) (σ 5) (σ 6) (σ 7) (σ 8) (σ 9) h := (kblock_eq (a := c12) rfl).trans (n12_eq k (fun x v0 v1 v4 v5 v6 v7 v8 v9 h => kb 2 x fun x => G x v0 v1 v4 v5 v6 v7 v8 v9 h) σ h)
@[simp] def n5 {R : Type} (k : Nat) (G : KT3 R) (v0 v1 v4 v5 v6 v7 v8 v9 : GV) (h : Heap) : Option R := n11 k (fun x v0 v1 v4 v5 v6 v7 v8 v9 h => kx x (n6 k G v0 v1 v4 v5 v6 v7 v8 v9 h) (G x v4 v5 v6 h)) v0 v1 v4 v5 v6 v7 v8 v9 h
theorem n5_eq {R : Type} (k : Nat) (G : KT3 R) (σ : GS) (h : Heap) : KC k 94 c5 σ h (fun x σ h => G x (σ 4) (σ 5) (σ 6) h) = n5 k G (σ 0) (σ 1) (σ 4) (σ 5) (σ 6) (σ 7) (σ 8) (σ 9) h := (kseq (b := c6) rfl (fun σ h => n6_eq k G σ h)).trans (n11_eq k (fun x v0 v1 v4 v5 v6 v7 v8 v9 h => kx x (n6 k G v0 v1 v4 v5 v6 v7 v8 v9 h) (G x v4 v5 v6 h)) σ h)
noncomputable def c19 : Code := cL c4
@[simp] def n4 {R : Type} (k : Nat) (G : KT3 R) (v0 v1 v4 v5 v6 v7 v8 : GV) (h : Heap) : Option R := (kbin .add v8 (.int .i64 1)).bind fun v43 => n5 k G v0 v1 v4 v5 v6 v7 v8 v43 h
theorem n4_eq0 {R : Type} (k : Nat) (G : KT3 R) (σ : GS) (h : Heap) : KC k 94 c19 σ h (fun x σ h => kx x (n5 k G (σ 0) (σ 1) (σ 4) (σ 5) (σ 6) (σ 7) (σ 8) (σ 9) h) (G x (σ 4) (σ 5) (σ 6) h)) = n4 k G (σ 0) (σ 1) (σ 4) (σ 5) (σ 6) (σ 7) (σ 8) h := by kernel_rfl
theorem n4_eq {R : Type} (k : Nat) (G : KT3 R) (σ : GS) (h : Heap) : KC k 94 c4 σ h (fun x σ h => G x (σ 4) (σ 5) (σ 6) h) = n4 k G (σ 0) (σ 1) (σ 4) (σ 5) (σ 6) (σ 7) (σ 8) h := (kseq (b := c5) rfl (fun σ h => n5_eq k G σ h)).trans (n4_eq0 k G σ h)
noncomputable def c20 : Code := cL c3
noncomputable def c21 : Code := cL c20
noncomputable def c22 : Code := cL c21
noncomputable def c23 : Code := cR c22
noncomputable def c24 : Code := cL c23
@[simp] def n24 {R : Type} (k : Nat) (G : KT7 R) (v0 v1 v4 v5 v6 v7 v8 : GV) (h : Heap) : Option R := (kbin .mul v7 (.int .i64 10)).bind fun v33 => (kbyte v1 v8).bind fun v36 => (kbin .sub v36 (.int .u8 48)).bind fun v37 => (kconvI .i64 v37).bind fun v38 => (kbin .add v33 v38).bind fun v39 => (kbin .add v8 (.int .i64 1)).bind fun v41 => G .nrm v0 v1 v4 v5 v6 v39 v41 h
theorem n24_eq {R : Type} (k : Nat) (G : KT7 R) (σ : GS) (h : Heap) : KC k 94 c24 σ h (fun x σ h => G x (σ 0) (σ 1) (σ 4) (σ 5) (σ 6) (σ 7) (σ 8) h) = n24 k G (σ 0) (σ 1) (σ 4) (σ 5) (σ 6) (σ 7) (σ 8) h := by kernel_rfl
@[simp] def n23 {R : Type} (k : Nat) (G : KT7 R) (v0 v1 v4 v5 v6 v7 v8 : GV) (h : Heap) : Option R := n24 k (fun x v0 v1 v4 v5 v6 v7 v8 h => kb 1 x fun x => G x v0 v1 v4 v5 v6 v7 v8 h) v0 v1 v4 v5 v6 v7 v8 h
theorem n23_eq {R : Type} (k : Nat) (G : KT7 R) (σ : GS) (h : Heap) : KC k 94 c23 σ h (fun x σ h => G x (σ 0) (σ 1) (σ 4) (σ 5) (σ 6) (σ 7) (σ 8) h) = n23 k G (σ 0) (σ 1) (σ 4) (σ 5) (σ 6) (σ 7) (σ 8) h := (kblock_eq (a := c24) rfl).trans (n24_eq k (fun x v0 v1 v4 v5 v6 v7 v8 h => kb 1 x fun x => G x v0 v1 v4 v5 v6 v7 v8 h) σ h)
noncomputable def c25 : Code := cL c22
noncomputable def c26 : Code := cR c25
@[simp] def n26 {R : Type} (k : Nat) (G : KT7 R) (v0 v1 v4 v5 v6 v7 v8 v31 : GV) (h : Heap) : Option R := kcond v31 (G .nrm v0 v1 v4 v5 v6 v7 v8 h) (G (.ext 0) v0 v1 v4 v5 v6 v7 v8 h)
theorem n26_eq {R : Type} (k : Nat) (G : KT7 R) (σ : GS) (h : Heap) : KC k 94 c26 σ h (fun x σ h => G x (σ 0) (σ 1) (σ 4) (σ 5) (σ 6) (σ 7) (σ 8) h) = n26 k G (σ 0) (σ 1) (σ 4) (σ 5) (σ 6) (σ 7) (σ 8) (σ 31) h := by kernel_rfl
noncomputable def c27 : Code := cL c25
noncomputable def o27 : Array Oper := cO c27
@[simp] def g27_6 {R : Type} (k : Nat) (G : KT8 R) (v0 v1 v4 v5 v6 v7 v8 v26 v30 : GV) (h : Heap) : Option R := (kpick v26 v30 (.bool false)).bind fun v31 => G .nrm v0 v1 v4 v5 v6 v7 v8 v31 h
theorem g27_6_eq {R : Type} (k : Nat) (G : KT8 R) (σ : GS) (h : Heap) : kgroups PP cfg NN HH 94 o27 [(none, [19])] σ h (fun σ h => G .nrm (σ 0) (σ 1) (σ 4) (σ 5) (σ 6) (σ 7) (σ 8) (σ 31) h) = g27_6 k G (σ 0) (σ 1) (σ 4) (σ 5) (σ 6) (σ 7) (σ 8) (σ 26) (σ 30) h := by kernel_rfl
@[simp] def g27_5 {R : Type} (k : Nat) (G : KT8 R) (v0 v1 v4 v5 v6 v7 v8 v26 : GV) (h : Heap) : Option R := bif tr true v26 then (kbyte v1 v8).bind fun v29 => (kbin .leq v29 (.int .u8 57)).bind fun v30 => g27_6 k G v0 v1 v4 v5 v6 v7 v8 v26 v30 h else g27_6 k G v0 v1 v4 v5 v6 v7 v8 v26 .un h
theorem g27_5_eq0 {R : Type} (k : Nat) (G : KT8 R) (σ : GS) (h : Heap) : kgroup1 PP cfg NN HH 94 o27 (some (14, true), [15, 16, 17, 18]) σ h (fun σ h => g27_6 k G (σ 0) (σ 1) (σ 4) (σ 5) (σ 6) (σ 7) (σ 8) (σ 26) (σ 30) h) = g27_5 k G (σ 0) (σ 1) (σ 4) (σ 5) (σ 6) (σ 7) (σ 8) (σ 26) h := by kernel_rfl
theorem g27_5_eq {R : Type} (k : Nat) (G : KT8 R) (σ : GS) (h : Heap) : kgroups PP cfg NN HH 94 o27 [(some (14, true), [15, 16, 17, 18]), (none, [19])] σ h (fun σ h => G .nrm (σ 0) (σ 1) (σ 4) (σ 5) (σ 6) (σ 7) (σ 8) (σ 31) h) = g27_5 k G (σ 0) (σ 1) (σ 4) (σ 5) (σ 6) (σ 7) (σ 8) (σ 26) h := (kgroups_cons (fun σ h => g27_6_eq k G σ h)).trans (g27_5_eq0 k G σ h)
@[simp] def g27_4 {R : Type} (k : Nat) (G : KT8 R) (v0 v1 v4 v5 v6 v7 v8 v20 v24 : GV) (h : Heap) : Option R := (kpick v20 v24 (.bool false)).bind fun v25 => g27_5 k G v0 v1 v4 v5 v6 v7 v8 v25 h
theorem g27_4_eq0 {R : Type} (k : Nat) (G : KT8 R) (σ : GS) (h : Heap) : kgroup1 PP cfg NN HH 94 o27 (none, [13, 14]) σ h (fun σ h => g27_5 k G (σ 0) (σ 1) (σ 4) (σ 5) (σ 6) (σ 7) (σ 8) (σ 26) h) = g27_4 k G (σ 0) (σ 1) (σ 4) (σ 5) (σ 6) (σ 7) (σ 8) (σ 20) (σ 24) h := by kernel_rfl
theorem g27_4_eq {R : Type} (k : Nat) (G : KT8 R) (σ : GS) (h : Heap) : kgroups PP cfg NN HH 94 o27 [(none, [13, 14]), (some (14, true), [15, 16, 17, 18]), (none, [19])] σ h (fun σ h => G .nrm (σ 0) (σ 1) (σ 4) (σ 5) (σ 6) (σ 7) (σ 8) (σ 31) h) = g27_4 k G (σ 0) (σ 1) (σ 4) (σ 5) (σ 6) (σ 7) (σ 8) (σ 20) (σ 24) h := (kgroups_cons (fun σ h => g27_5_eq k G σ h)).trans (g27_4_eq0 k G σ h)
@[simp] def g27_3 {R : Type} (k : Nat) (G : KT8 R) (v0 v1 v4 v5 v6 v7 v8 v20 : GV) (h : Heap) : Option R := bif tr true v20 then (kbyte v1 v8).bind fun v23 => (kbin .geq v23 (.int .u8 48)).bind fun v24 => g27_4 k G v0 v1 v4 v5 v6 v7 v8 v20 v24 h else g27_4 k G v0 v1 v4 v5 v6 v7 v8 v20 .un h
theorem g27_3_eq0 {R : Type} (k : Nat) (G : KT8 R) (σ : GS) (h : Heap) : kgroup1 PP cfg NN HH 94 o27 (some (8, true), [9, 10, 11, 12]) σ h (fun σ h => g27_4 k G (σ 0) (σ 1) (σ 4) (σ 5) (σ 6) (σ 7) (σ 8) (σ 20) (σ 24) h) = g27_3 k G (σ 0) (σ 1) (σ 4) (σ 5) (σ 6) (σ 7) (σ 8) (σ 20) h := by kernel_rfl
theorem g27_3_eq {R : Type} (k : Nat) (G : KT8 R) (σ : GS) (h : Heap) : kgroups PP cfg NN HH 94 o27 [(some (8, true), [9, 10, 11, 12]), (none, [13, 14]), (some (14, true), [15, 16, 17, 18]), (none, [19])] σ h (fun σ h => G .nrm (σ 0) (σ 1) (σ 4) (σ 5) (σ 6) (σ 7) (σ 8) (σ 31) h) = g27_3 k G (σ 0) (σ 1) (σ 4) (σ 5) (σ 6) (σ 7) (σ 8) (σ 20) h := (kgroups_cons (fun σ h => g27_4_eq k G σ h)).trans (g27_3_eq0 k G σ h)
@[simp] def g27_2 {R : Type} (k : Nat) (G : KT8 R) (v0 v1 v4 v5 v6 v7 v8 v16 v18 : GV) (h : Heap) : Option R := (kpick v16 v18 (.bool false)).bind fun v19 => g27_3 k G v0 v1 v4 v5 v6 v7 v8 v19 h
theorem g27_2_eq0 {R : Type} (k : Nat) (G : KT8 R) (σ : GS) (h : Heap) : kgroup1 PP cfg NN HH 94 o27 (none, [7, 8]) σ h (fun σ h => g27_3 k G (σ 0) (σ 1) (σ 4) (σ 5) (σ 6) (σ 7) (σ 8) (σ 20) h) = g27_2 k G (σ 0) (σ 1) (σ 4) (σ 5) (σ 6) (σ 7) (σ 8) (σ 16) (σ 18) h := by kernel_rfl
theorem g27_2_eq {R : Type} (k : Nat) (G : KT8 R) (σ : GS) (h : Heap) : kgroups PP cfg NN HH 94 o27 [(none, [7, 8]), (some (8, true), [9, 10, 11, 12]), (none, [13, 14]), (some (14, true), [15, 16, 17, 18]), (none, [19])] σ h (fun σ h => G .nrm (σ 0) (σ 1) (σ 4) (σ 5) (σ 6) (σ 7) (σ 8) (σ 31) h) = g27_2 k G (σ 0) (σ 1) (σ 4) (σ 5) (σ 6) (σ 7) (σ 8) (σ 16) (σ 18) h := (kgroups_cons (fun σ h => g27_3_eq k G σ h)).trans (g27_2_eq0 k G σ h)
@[simp] def g27_1 {R : Type} (k : Nat) (G : KT8 R) (v0 v1 v4 v5 v6 v7 v8 v16 : GV) (h : Heap) : Option R := bif tr true v16 then (kbin .lss v8 (.int .i64 14)).bind fun v18 => g27_2 k G v0 v1 v4 v5 v6 v7 v8 v16 v18 h else g27_2 k G v0 v1 v4 v5 v6 v7 v8 v16 .un h
theorem g27_1_eq0 {R : Type} (k : Nat) (G : KT8 R) (σ : GS) (h : Heap) : kgroup1 PP cfg NN HH 94 o27 (some (4, true), [5, 6]) σ h (fun σ h => g27_2 k G (σ 0) (σ 1) (σ 4) (σ 5) (σ 6) (σ 7) (σ 8) (σ 16) (σ 18) h) = g27_1 k G (σ 0) (σ 1) (σ 4) (σ 5) (σ 6) (σ 7) (σ 8) (σ 16) h := by kernel_rfl
theorem g27_1_eq {R : Type} (k : Nat) (G : KT8 R) (σ : GS) (h : Heap) : kgroups PP cfg NN HH 94 o27 [(some (4, true), [5, 6]), (none, [7, 8]), (some (8, true), [9, 10, 11, 12]), (none, [13, 14]), (some (14, true), [15, 16, 17, 18]), (none, [19])] σ h (fun σ h => G .nrm (σ 0) (σ 1) (σ 4) (σ 5) (σ 6) (σ 7) (σ 8) (σ 31) h) = g27_1 k G (σ 0) (σ 1) (σ 4) (σ 5) (σ 6) (σ 7) (σ 8) (σ 16) h := (kgroups_cons (fun σ h => g27_2_eq k G σ h)).trans (g27_1_eq0 k G σ h)
@[simp] def g27_0 {R : Type} (k : Nat) (G : KT8 R) (v0 v1 v4 v5 v6 v7 v8 : GV) (h : Heap) : Option R := (klenS v1).bind fun v14 => (kbin .lss v8 v14).bind fun v15 => g27_1 k G v0 v1 v4 v5 v6 v7 v8 v15 h
theorem g27_0_eq0 {R : Type} (k : Nat) (G : KT8 R) (σ : GS) (h : Heap) : kgroup1 PP cfg NN HH 94 o27 (none, [0, 1, 2, 3, 4]) σ h (fun σ h => g27_1 k G (σ 0) (σ 1) (σ 4) (σ 5) (σ 6) (σ 7) (σ 8) (σ 16) h) = g27_0 k G (σ 0) (σ 1) (σ 4) (σ 5) (σ 6) (σ 7) (σ 8) h := by kernel_rfl
theorem g27_0_eq {R : Type} (k : Nat) (G : KT8 R) (σ : GS) (h : Heap) : kgroups PP cfg NN HH 94 o27 [(none, [0, 1, 2, 3, 4]), (some (4, true), [5, 6]), (none, [7, 8]), (some (8, true), [9, 10, 11, 12]), (none, [13, 14]), (some (14, true), [15, 16, 17, 18]), (none, [19])] σ h (fun σ h => G .nrm (σ 0) (σ 1) (σ 4) (σ 5) (σ 6) (σ 7) (σ 8) (σ 31) h) = g27_0 k G (σ 0) (σ 1) (σ 4) (σ 5) (σ 6) (σ 7) (σ 8) h := (kgroups_cons (fun σ h => g27_1_eq k G σ h)).trans (g27_0_eq0 k G σ h)
@[simp] def n27 {R : Type} (k : Nat) (G : KT8 R) (v0 v1 v4 v5 v6 v7 v8 : GV) (h : Heap) : Option R := g27_0 k G v0 v1 v4 v5 v6 v7 v8 h
theorem n27_eq {R : Type} (k : Nat) (G : KT8 R) (σ : GS) (h : Heap) : KC k 94 c27 σ h (fun x σ h => G x (σ 0) (σ 1) (σ 4) (σ 5) (σ 6) (σ 7) (σ 8) (σ 31) h) = n27 k G (σ 0) (σ 1) (σ 4) (σ 5) (σ 6) (σ 7) (σ 8) h := (kregion_eq (id := 3) (draw := false) (ops := o27) (gs := [(none, [0, 1, 2, 3, 4]), (some (4, true), [5, 6]), (none, [7, 8]), (some (8, true), [9, 10, 11, 12]), (none, [13, 14]), (some (14, true), [15, 16, 17, 18]), (none, [19])]) (by kernel_rfl) (by kernel_rfl) (by kernel_rfl)).trans (g27_0_eq k G σ h)
@[simp] def n25 {R : Type} (k : Nat) (G : KT7 R) (v0 v1 v4 v5 v6 v7 v8 : GV) (h : Heap) : Option R := n27 k (fun x v0 v1 v4 v5 v6 v7 v8 v31 h => kx x (n26 k G v0 v1 v4 v5 v6 v7 v8 v31 h) (G x v0 v1 v4 v5 v6 v7 v8 h)) v0 v1 v4 v5 v6 v7 v8 h
theorem n25_eq {R : Type} (k : Nat) (G : KT7 R) (σ : GS) (h : Heap) : KC k 94 c25 σ h (fun x σ h => G x (σ 0) (σ 1) (σ 4) (σ 5) (σ 6) (σ 7) (σ 8) h) = n25 k G (σ 0) (σ 1) (σ 4) (σ 5) (σ 6) (σ 7) (σ 8) h := (kseq (b := c26) rfl (fun σ h => n26_eq k G σ h)).trans (n27_eq k (fun x v0 v1 v4 v5 v6 v7 v8 v31 h => kx x (n26 k G v0 v1 v4 v5 v6 v7 v8 v31 h) (G x v0 v1 v4 v5 v6 v7 v8 h)) σ h)
@[simp] def n22 {R : Type} (k : Nat) (G : KT7 R) (v0 v1 v4 v5 v6 v7 v8 : GV) (h : Heap) : Option R := n25 k (fun x v0 v1 v4 v5 v6 v7 v8 h => kx x (n23 k G v0 v1 v4 v5 v6 v7 v8 h) (G x v0 v1 v4 v5 v6 v7 v8 h)) v0 v1 v4 v5 v6 v7 v8 h
theorem n22_eq {R : Type} (k : Nat) (G : KT7 R) (σ : GS) (h : Heap) : KC k 94 c22 σ h (fun x σ h => G x (σ 0) (σ 1) (σ 4) (σ 5) (σ 6) (σ 7) (σ 8) h) = n22 k G (σ 0) (σ 1) (σ 4) (σ 5) (σ 6) (σ 7) (σ 8) h := (kseq (b := c23) rfl (fun σ h => n23_eq k G σ h)).trans (n25_eq k (fun x v0 v1 v4 v5 v6 v7 v8 h => kx x (n23 k G v0 v1 v4 v5 v6 v7 v8 h) (G x v0 v1 v4 v5 v6 v7 v8 h)) σ h)
def l21 {R : Type} (k : Nat) (G : KT7 R) : Nat → GV → GV → GV → GV → GV → GV → GV → Heap → Option R
  | 0, _, _, _, _, _, _, _, _ => none
  | r + 1, v0, v1, v4, v5, v6, v7, v8, h => n22 k (fun x v0 v1 v4 v5 v6 v7 v8 h => kx x (l21 k G r v0 v1 v4 v5 v6 v7 v8 h) (G x v0 v1 v4 v5 v6 v7 v8 h)) v0 v1 v4 v5 v6 v7 v8 h
theorem l21_eq {R : Type} (k : Nat) (G : KT7 R) : ∀ (r : Nat) (σ : GS) (h : Heap), kloop (fun σ h K => KC k 94 c22 σ h K) r σ h (fun x σ h => G x (σ 0) (σ 1) (σ 4) (σ 5) (σ 6) (σ 7) (σ 8) h) = l21 k G r (σ 0) (σ 1) (σ 4) (σ 5) (σ 6) (σ 7) (σ 8) h
  | 0, _, _ => rfl
  | r + 1, σ, h => (kloop_eq (fun σ h => l21_eq k G r σ h)).trans (n22_eq k (fun x v0 v1 v4 v5 v6 v7 v8 h => kx x (l21 k G r v0 v1 v4 v5 v6 v7 v8 h) (G x v0 v1 v4 v5 v6 v7 v8 h)) σ h)
@[simp] def n21 {R : Type} (k : Nat) (G : KT7 R) (v0 v1 v4 v5 v6 v7 v8 : GV) (h : Heap) : Option R := l21 k G k v0 v1 v4 v5 v6 v7 v8 h
theorem n21_eq {R : Type} (k : Nat) (G : KT7 R) (σ : GS) (h : Heap) : KC k 94 c21 σ h (fun x σ h => G x (σ 0) (σ 1) (σ 4) (σ 5) (σ 6) (σ 7) (σ 8) h) = n21 k G (σ 0) (σ 1) (σ 4) (σ 5) (σ 6) (σ 7) (σ 8) h := (kloopc_eq (a := c22) rfl).trans (l21_eq k G k σ h)
@[simp] def n20 {R : Type} (k : Nat) (G : KT7 R) (v0 v1 v4 v5 v6 v7 v8 : GV) (h : Heap) : Option R := n21 k (fun x v0 v1 v4 v5 v6 v7 v8 h => kb 0 x fun x => G x v0 v1 v4 v5 v6 v7 v8 h) v0 v1 v4 v5 v6 v7 v8 h
theorem n20_eq {R : Type} (k : Nat) (G : KT7 R) (σ : GS) (h : Heap) : KC k 94 c20 σ h (fun x σ h => G x (σ 0) (σ 1) (σ 4) (σ 5) (σ 6) (σ 7) (σ 8) h) = n20 k G (σ 0) (σ 1) (σ 4) (σ 5) (σ 6) (σ 7) (σ 8) h := (kblock_eq (a := c21) rfl).trans (n21_eq k (fun x v0 v1 v4 v5 v6 v7 v8 h => kb 0 x fun x => G x v0 v1 v4 v5 v6 v7 v8 h) σ h)
@[simp] def n3 {R : Type} (k : Nat) (G : KT3 R) (v0 v1 v4 v5 v6 v7 v8 : GV) (h : Heap) : Option R := n20 k (fun x v0 v1 v4 v5 v6 v7 v8 h => kx x (n4 k G v0 v1 v4 v5 v6 v7 v8 h) (G x v4 v5 v6 h)) v0 v1 v4 v5 v6 v7 v8 h
theorem n3_eq {R : Type} (k : Nat) (G : KT3 R) (σ : GS) (h : Heap) : KC k 94 c3 σ h (fun x σ h => G x (σ 4) (σ 5) (σ 6) h) = n3 k G (σ 0) (σ 1) (σ 4) (σ 5) (σ 6) (σ 7) (σ 8) h := (kseq (b := c4) rfl (fun σ h => n4_eq k G σ h)).trans (n20_eq k (fun x v0 v1 v4 v5 v6 v7 v8 h => kx x (n4 k G v0 v1 v4 v5 v6 v7 v8 h) (G x v4 v5 v6 h)) σ h)
noncomputable def c28 : Code := cL c2
@[simp] def n2 {R : Type} (k : Nat) (G : KT3 R) (v0 v1 v4 v5 v6 v7 : GV) (h : Heap) : Option R := n3 k G v0 v1 v4 v5 v6 v7 (.int .i64 0) h
theorem n2_eq0 {R : Type} (k : Nat) (G : KT3 R) (σ : GS) (h : Heap) : KC k 94 c28 σ h (fun x σ h => kx x (n3 k G (σ 0) (σ 1) (σ 4) (σ 5) (σ 6) (σ 7) (σ 8) h) (G x (σ 4) (σ 5) (σ 6) h)) = n2 k G (σ 0) (σ 1) (σ 4) (σ 5) (σ 6) (σ 7) h := by kernel_rfl
theorem n2_eq {R : Type} (k : Nat) (G : KT3 R) (σ : GS) (h : Heap) : KC k 94 c2 σ h (fun x σ h => G x (σ 4) (σ 5) (σ 6) h) = n2 k G (σ 0) (σ 1) (σ 4) (σ 5) (σ 6) (σ 7) h := (kseq (b := c3) rfl (fun σ h => n3_eq k G σ h)).trans (n2_eq0 k G σ h)
noncomputable def c29 : Code := cL c1
@[simp] def n1 {R : Type} (k : Nat) (G : KT3 R) (v0 v1 v4 v5 v6 : GV) (h : Heap) : Option R := n2 k G v0 v1 v4 v5 v6 (.int .i64 0) h
theorem n1_eq0 {R : Type} (k : Nat) (G : KT3 R) (σ : GS) (h : Heap) : KC k 94 c29 σ h (fun x σ h => kx x (n2 k G (σ 0) (σ 1) (σ 4) (σ 5) (σ 6) (σ 7) h) (G x (σ 4) (σ 5) (σ 6) h)) = n1 k G (σ 0) (σ 1) (σ 4) (σ 5) (σ 6) h := by kernel_rfl
theorem n1_eq {R : Type} (k : Nat) (G : KT3 R) (σ : GS) (h : Heap) : KC k 94 c1 σ h (fun x σ h => G x (σ 4) (σ 5) (σ 6) h) = n1 k G (σ 0) (σ 1) (σ 4) (σ 5) (σ 6) h := (kseq (b := c2) rfl (fun σ h => n2_eq k G σ h)).trans (n1_eq0 k G σ h)
noncomputable def c30 : Code := cL c0
@[simp] def n0 {R : Type} (k : Nat) (G : KT3 R) (v0 v1 : GV) (h : Heap) : Option R := n1 k G v0 v1 (.int .i64 0) (.str { data := #[] }) (.bool false) h
theorem n0_eq0 {R : Type} (k : Nat) (G : KT3 R) (σ : GS) (h : Heap) : KC k 94 c30 σ h (fun x σ h => kx x (n1 k G (σ 0) (σ 1) (σ 4) (σ 5) (σ 6) h) (G x (σ 4) (σ 5) (σ 6) h)) = n0 k G (σ 0) (σ 1) h := by kernel_rfl
theorem n0_eq {R : Type} (k : Nat) (G : KT3 R) (σ : GS) (h : Heap) : KC k 94 c0 σ h (fun x σ h => G x (σ 4) (σ 5) (σ 6) h) = n0 k G (σ 0) (σ 1) h := (kseq (b := c1) rfl (fun σ h => n1_eq k G σ h)).trans (n0_eq0 k G σ h)
def run {R : Type} (k : Nat) (a0 : GV) (a1 : GV) (h : Heap) (fin : GV → Heap → Option R) : Option R := n0 k (fun x v4 v5 v6 h => kend x (fin (.tup [v4, v5, v6]) h)) a0 a1 h
theorem run_eq {R : Type} (k : Nat) (a0 : GV) (a1 : GV) (h : Heap) (fin : GV → Heap → Option R) : kfun PP cfg NN HH k fn.spec_Opened [a0, a1] h fin = run k a0 a1 h fin := (kfun_eq (nt := 94) (c := c0) (show PP.funcs[fn.spec_Opened]? = some Tryd.f22 by kernel_rfl) (by kernel_rfl) (by kernel_rfl) (fun x σ h => by cases x <;> kernel_rfl)).trans (n0_eq k (fun x v4 v5 v6 h => kend x (fin (.tup [v4, v5, v6]) h)) _ h)
theorem gives {k : Nat} {a0 : GV} {a1 : GV} {v : GV} (e : run k a0 a1 [] finN = some v) : NN fn.spec_Opened [a0, a1] = some v := nω_of (by kernel_rfl) ((run_eq k a0 a1 [] finN).trans e)
end S.spec_Opened
/-! laws_FnExactOpened -/
namespace S.laws_FnExactOpened
noncomputable def c0 : Code := bodyOf Tryd.f6
noncomputable def c1 : Code := cR c0
noncomputable def c2 : Code := cR c1
noncomputable def c3 : Code := cR c2
noncomputable def c4 : Code := cR c3
noncomputable def c5 : Code := cR c4
noncomputable def c6 : Code := cR c5
@[simp] def n6 {R : Type} (k : Nat) (G : KT1 R) (h : Heap) : Option R := G .ret (.bool true) h
theorem n6_eq {R : Type} (k : Nat) (G : KT1 R) (σ : GS) (h : Heap) : KC k 44 c6 σ h (fun x σ h => G x (σ 4) h) = n6 k G h := by kernel_rfl
noncomputable def c7 : Code := cL c5
noncomputable def c8 : Code := cR c7
@[simp] def n8 {R : Type} (k : Nat) (G : KT1 R) (v4 v43 : GV) (h : Heap) : Option R := kcond v43 (G .ret (.bool false) h) (G .nrm v4 h)
theorem n8_eq {R : Type} (k : Nat) (G : KT1 R) (σ : GS) (h : Heap) : KC k 44 c8 σ h (fun x σ h => G x (σ 4) h) = n8 k G (σ 4) (σ 43) h := by kernel_rfl
noncomputable def c9 : Code := cL c7
noncomputable def o9 : Array Oper := cO c9
@[simp] def g9_4 {R : Type} (k : Nat) (G : KT2 R) (v4 v39 v42 : GV) (h : Heap) : Option R := (kpick v39 (.bool true) v42).bind fun v43 => G .nrm v4 v43 h
theorem g9_4_eq {R : Type} (k : Nat) (G : KT2 R) (σ : GS) (h : Heap) : kgroups PP cfg NN HH 44 o9 [(none, [12])] σ h (fun σ h => G .nrm (σ 4) (σ 43) h) = g9_4 k G (σ 4) (σ 39) (σ 42) h := by kernel_rfl
@[simp] def g9_3 {R : Type} (k : Nat) (G : KT2 R) (v4 v7 v10 v39 : GV) (h : Heap) : Option R := bif tr false v39 then (keqB .neq v10 v7).bind fun v42 => g9_4 k G v4 v39 v42 h else g9_4 k G v4 v39 .un h
theorem g9_3_eq0 {R : Type} (k : Nat) (G : KT2 R) (σ : GS) (h : Heap) : kgroup1 PP cfg NN HH 44 o9 (some (8, false), [9, 10, 11]) σ h (fun σ h => g9_4 k G (σ 4) (σ 39) (σ 42) h) = g9_3 k G (σ 4) (σ 7) (σ 10) (σ 39) h := by kernel_rfl
theorem g9_3_eq {R : Type} (k : Nat) (G : KT2 R) (σ : GS) (h : Heap) : kgroups PP cfg NN HH 44 o9 [(some (8, false), [9, 10, 11]), (none, [12])] σ h (fun σ h => G .nrm (σ 4) (σ 43) h) = g9_3 k G (σ 4) (σ 7) (σ 10) (σ 39) h := (kgroups_cons (fun σ h => g9_4_eq k G σ h)).trans (g9_3_eq0 k G σ h)
@[simp] def g9_2 {R : Type} (k : Nat) (G : KT2 R) (v4 v7 v10 v34 v37 : GV) (h : Heap) : Option R := (kpick v34 (.bool true) v37).bind fun v38 => g9_3 k G v4 v7 v10 v38 h
theorem g9_2_eq0 {R : Type} (k : Nat) (G : KT2 R) (σ : GS) (h : Heap) : kgroup1 PP cfg NN HH 44 o9 (none, [7, 8]) σ h (fun σ h => g9_3 k G (σ 4) (σ 7) (σ 10) (σ 39) h) = g9_2 k G (σ 4) (σ 7) (σ 10) (σ 34) (σ 37) h := by kernel_rfl
theorem g9_2_eq {R : Type} (k : Nat) (G : KT2 R) (σ : GS) (h : Heap) : kgroups PP cfg NN HH 44 o9 [(none, [7, 8]), (some (8, false), [9, 10, 11]), (none, [12])] σ h (fun σ h => G .nrm (σ 4) (σ 43) h) = g9_2 k G (σ 4) (σ 7) (σ 10) (σ 34) (σ 37) h := (kgroups_cons (fun σ h => g9_3_eq k G σ h)).trans (g9_2_eq0 k G σ h)
@[simp] def g9_1 {R : Type} (k : Nat) (G : KT2 R) (v4 v6 v7 v9 v10 v34 : GV) (h : Heap) : Option R := bif tr false v34 then (kbin .neq v9 v6).bind fun v37 => g9_2 k G v4 v7 v10 v34 v37 h else g9_2 k G v4 v7 v10 v34 .un h
theorem g9_1_eq0 {R : Type} (k : Nat) (G : KT2 R) (σ : GS) (h : Heap) : kgroup1 PP cfg NN HH 44 o9 (some (3, false), [4, 5, 6]) σ h (fun σ h => g9_2 k G (σ 4) (σ 7) (σ 10) (σ 34) (σ 37) h) = g9_1 k G (σ 4) (σ 6) (σ 7) (σ 9) (σ 10) (σ 34) h := by kernel_rfl
theorem g9_1_eq {R : Type} (k : Nat) (G : KT2 R) (σ : GS) (h : Heap) : kgroups PP cfg NN HH 44 o9 [(some (3, false), [4, 5, 6]), (none, [7, 8]), (some (8, false), [9, 10, 11]), (none, [12])] σ h (fun σ h => G .nrm (σ 4) (σ 43) h) = g9_1 k G (σ 4) (σ 6) (σ 7) (σ 9) (σ 10) (σ 34) h := (kgroups_cons (fun σ h => g9_2_eq k G σ h)).trans (g9_1_eq0 k G σ h)
@[simp] def g9_0 {R : Type} (k : Nat) (G : KT2 R) (v4 v5 v6 v7 v8 v9 v10 : GV) (h : Heap) : Option R := (kbin .neq v8 v5).bind fun v33 => g9_1 k G v4 v6 v7 v9 v10 v33 h
theorem g9_0_eq0 {R : Type} (k : Nat) (G : KT2 R) (σ : GS) (h : Heap) : kgroup1 PP cfg NN HH 44 o9 (none, [0, 1, 2, 3]) σ h (fun σ h => g9_1 k G (σ 4) (σ 6) (σ 7) (σ 9) (σ 10) (σ 34) h) = g9_0 k G (σ 4) (σ 5) (σ 6) (σ 7) (σ 8) (σ 9) (σ 10) h := by kernel_rfl
theorem g9_0_eq {R : Type} (k : Nat) (G : KT2 R) (σ : GS) (h : Heap) : kgroups PP cfg NN HH 44 o9 [(none, [0, 1, 2, 3]), (some (3, false), [4, 5, 6]), (none, [7, 8]), (some (8, false), [9, 10, 11]), (none, [12])] σ h (fun σ h => G .nrm (σ 4) (σ 43) h) = g9_0 k G (σ 4) (σ 5) (σ 6) (σ 7) (σ 8) (σ 9) (σ 10) h := (kgroups_cons (fun σ h => g9_1_eq k G σ h)).trans (g9_0_eq0 k G σ h)
@[simp] def n9 {R : Type} (k : Nat) (G : KT2 R) (v4 v5 v6 v7 v8 v9 v10 : GV) (h : Heap) : Option R := g9_0 k G v4 v5 v6 v7 v8 v9 v10 h
theorem n9_eq {R : Type} (k : Nat) (G : KT2 R) (σ : GS) (h : Heap) : KC k 44 c9 σ h (fun x σ h => G x (σ 4) (σ 43) h) = n9 k G (σ 4) (σ 5) (σ 6) (σ 7) (σ 8) (σ 9) (σ 10) h := (kregion_eq (id := 7) (draw := false) (ops := o9) (gs := [(none, [0, 1, 2, 3]), (some (3, false), [4, 5, 6]), (none, [7, 8]), (some (8, false), [9, 10, 11]), (none, [12])]) (by kernel_rfl) (by kernel_rfl) (by kernel_rfl)).trans (g9_0_eq k G σ h)
@[simp] def n7 {R : Type} (k : Nat) (G : KT1 R) (v4 v5 v6 v7 v8 v9 v10 : GV) (h : Heap) : Option R := n9 k (fun x v4 v43 h => kx x (n8 k G v4 v43 h) (G x v4 h)) v4 v5 v6 v7 v8 v9 v10 h
theorem n7_eq {R : Type} (k : Nat) (G : KT1 R) (σ : GS) (h : Heap) : KC k 44 c7 σ h (fun x σ h => G x (σ 4) h) = n7 k G (σ 4) (σ 5) (σ 6) (σ 7) (σ 8) (σ 9) (σ 10) h := (kseq (b := c8) rfl (fun σ h => n8_eq k G σ h)).trans (n9_eq k (fun x v4 v43 h => kx x (n8 k G v4 v43 h) (G x v4 h)) σ h)
@[simp] def n5 {R : Type} (k : Nat) (G : KT1 R) (v4 v5 v6 v7 v8 v9 v10 : GV) (h : Heap) : Option R := n7 k (fun x v4 h => kx x (n6 k G h) (G x v4 h)) v4 v5 v6 v7 v8 v9 v10 h
theorem n5_eq {R : Type} (k : Nat) (G : KT1 R) (σ : GS) (h : Heap) : KC k 44 c5 σ h (fun x σ h => G x (σ 4) h) = n5 k G (σ 4) (σ 5) (σ 6) (σ 7) (σ 8) (σ 9) (σ 10) h := (kseq (b := c6) rfl (fun σ h => n6_eq k G σ h)).trans (n7_eq k (fun x v4 h => kx x (n6 k G h) (G x v4 h)) σ h)
noncomputable def c10 : Code := cL c4
@[simp] def n4 {R : Type} (k : Nat) (G : KT1 R) (v0 v1 v4 v5 v6 v7 : GV) (h : Heap) : Option R := (kN NN fn.impl_Opened [v0, v1] h).bind fun v27 => (kxt 0 v27).bind fun v28 => (kxt 1 v27).bind fun v29 => (kxt 2 v27).bind fun v30 => n5 k G v4 v5 v6 v7 v28 v29 v30 h
theorem n4_eq0 {R : Type} (k : Nat) (G : KT1 R) (σ : GS) (h : Heap) : KC k 44 c10 σ h (fun x σ h => kx x (n5 k G (σ 4) (σ 5) (σ 6) (σ 7) (σ 8) (σ 9) (σ 10) h) (G x (σ 4) h)) = n4 k G (σ 0) (σ 1) (σ 4) (σ 5) (σ 6) (σ 7) h := by kernel_rfl
theorem n4_eq {R : Type} (k : Nat) (G : KT1 R) (σ : GS) (h : Heap) : KC k 44 c4 σ h (fun x σ h => G x (σ 4) h) = n4 k G (σ 0) (σ 1) (σ 4) (σ 5) (σ 6) (σ 7) h := (kseq (b := c5) rfl (fun σ h => n5_eq k G σ h)).trans (n4_eq0 k G σ h)
noncomputable def c11 : Code := cL c3
@[simp] def n3 {R : Type} (k : Nat) (G : KT1 R) (v0 v1 v4 : GV) (h : Heap) : Option R := (kN NN fn.spec_Opened [v0, v1] h).bind fun v20 => (kxt 0 v20).bind fun v21 => (kxt 1 v20).bind fun v22 => (kxt 2 v20).bind fun v23 => n4 k G v0 v1 v4 v21 v22 v23 h
theorem n3_eq0 {R : Type} (k : Nat) (G : KT1 R) (σ : GS) (h : Heap) : KC k 44 c11 σ h (fun x σ h => kx x (n4 k G (σ 0) (σ 1) (σ 4) (σ 5) (σ 6) (σ 7) h) (G x (σ 4) h)) = n3 k G (σ 0) (σ 1) (σ 4) h := by kernel_rfl
theorem n3_eq {R : Type} (k : Nat) (G : KT1 R) (σ : GS) (h : Heap) : KC k 44 c3 σ h (fun x σ h => G x (σ 4) h) = n3 k G (σ 0) (σ 1) (σ 4) h := (kseq (b := c4) rfl (fun σ h => n4_eq k G σ h)).trans (n3_eq0 k G σ h)
noncomputable def c12 : Code := cL c2
@[simp] def n2 {R : Type} (k : Nat) (G : KT1 R) (v0 v1 v4 : GV) (h : Heap) : Option R := (klenS v1).bind fun v15 => (kbin .gtr v15 (.int .i64 1048576)).bind fun v16 => kcond v16 (G .ret (.bool true) h) (n3 k G v0 v1 v4 h)
theorem n2_eq0 {R : Type} (k : Nat) (G : KT1 R) (σ : GS) (h : Heap) : KC k 44 c12 σ h (fun x σ h => kx x (n3 k G (σ 0) (σ 1) (σ 4) h) (G x (σ 4) h)) = n2 k G (σ 0) (σ 1) (σ 4) h := by kernel_rfl
theorem n2_eq {R : Type} (k : Nat) (G : KT1 R) (σ : GS) (h : Heap) : KC k 44 c2 σ h (fun x σ h => G x (σ 4) h) = n2 k G (σ 0) (σ 1) (σ 4) h := (kseq (b := c3) rfl (fun σ h => n3_eq k G σ h)).trans (n2_eq0 k G σ h)
noncomputable def c13 : Code := cL c1
@[simp] def n1 {R : Type} (k : Nat) (G : KT1 R) (v0 v1 v4 : GV) (h : Heap) : Option R := (klenS v0).bind fun v12 => (kbin .gtr v12 (.int .i64 1048576)).bind fun v13 => kcond v13 (G .ret (.bool true) h) (n2 k G v0 v1 v4 h)
theorem n1_eq0 {R : Type} (k : Nat) (G : KT1 R) (σ : GS) (h : Heap) : KC k 44 c13 σ h (fun x σ h => kx x (n2 k G (σ 0) (σ 1) (σ 4) h) (G x (σ 4) h)) = n1 k G (σ 0) (σ 1) (σ 4) h := by kernel_rfl
theorem n1_eq {R : Type} (k : Nat) (G : KT1 R) (σ : GS) (h : Heap) : KC k 44 c1 σ h (fun x σ h => G x (σ 4) h) = n1 k G (σ 0) (σ 1) (σ 4) h := (kseq (b := c2) rfl (fun σ h => n2_eq k G σ h)).trans (n1_eq0 k G σ h)
noncomputable def c14 : Code := cL c0
@[simp] def n0 {R : Type} (k : Nat) (G : KT1 R) (v0 v1 : GV) (h : Heap) : Option R := n1 k G v0 v1 (.bool false) h
theorem n0_eq0 {R : Type} (k : Nat) (G : KT1 R) (σ : GS) (h : Heap) : KC k 44 c14 σ h (fun x σ h => kx x (n1 k G (σ 0) (σ 1) (σ 4) h) (G x (σ 4) h)) = n0 k G (σ 0) (σ 1) h := by kernel_rfl
theorem n0_eq {R : Type} (k : Nat) (G : KT1 R) (σ : GS) (h : Heap) : KC k 44 c0 σ h (fun x σ h => G x (σ 4) h) = n0 k G (σ 0) (σ 1) h := (kseq (b := c1) rfl (fun σ h => n1_eq k G σ h)).trans (n0_eq0 k G σ h)
def run {R : Type} (k : Nat) (a0 : GV) (a1 : GV) (h : Heap) (fin : GV → Heap → Option R) : Option R := n0 k (fun x v4 h => kend x (fin v4 h)) a0 a1 h
theorem run_eq {R : Type} (k : Nat) (a0 : GV) (a1 : GV) (h : Heap) (fin : GV → Heap → Option R) : kfun PP cfg NN HH k fn.laws_FnExactOpened [a0, a1] h fin = run k a0 a1 h fin := (kfun_eq (nt := 44) (c := c0) (show PP.funcs[fn.laws_FnExactOpened]? = some Tryd.f6 by kernel_rfl) (by kernel_rfl) (by kernel_rfl) (fun x σ h => by cases x <;> kernel_rfl)).trans (n0_eq k (fun x v4 h => kend x (fin v4 h)) _ h)
theorem gives {k : Nat} {a0 : GV} {a1 : GV} {v : GV} (e : run k a0 a1 [] finN = some v) : NN fn.laws_FnExactOpened [a0, a1] = some v := nω_of (by kernel_rfl) ((run_eq k a0 a1 [] finN).trans e)
end S.laws_FnExactOpened
end
end Go.Proofs.YtklhdbkaejbajaaDoor.G
