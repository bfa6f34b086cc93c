/- What these functions do, told for open values, out of the machine with continuations. Printed by a program of this session. -/
import Derived.Test.YtopmnigfklgnkaaSA1
import Derived.KernelRfl
namespace Go.Proofs.Ytopmnigfklgnkaa.G
open Go.RowKit
set_option linter.unusedVariables false
set_option maxRecDepth 100000
noncomputable section
/-! slices_Concat_string -/
namespace S.slices_Concat_string
noncomputable def c0 : Code := bodyOf Try.f102
noncomputable def c1 : Code := cR c0
noncomputable def c2 : Code := cR c1
noncomputable def c3 : Code := cR c2
noncomputable def c4 : Code := cR c3
noncomputable def c5 : Code := cR c4
@[simp] def n5 {R : Type} (k : Nat) (G : KT1 R) (v6 : GV) (h : Heap) : Option R := G .ret v6 h
theorem n5_eq {R : Type} (k : Nat) (G : KT1 R) (σ : GS) (h : Heap) : KC k 36 c5 σ h (fun x σ h => G x (σ 2) h) = n5 k G (σ 6) h := by kernel_rfl
noncomputable def c6 : Code := cL c4
noncomputable def c7 : Code := cR c6
noncomputable def c8 : Code := cL c7
noncomputable def c9 : Code := cL c8
noncomputable def c10 : Code := cR c9
noncomputable def c11 : Code := cR c10
noncomputable def c12 : Code := cR c11
@[simp] def n12 {R : Type} (k : Nat) (G : KT5 R) (v2 v6 v25 v26 v27 : GV) (h : Heap) : Option R := (kbin .add v27 (.int .i64 1)).bind fun v34 => G .nrm v2 v6 v25 v26 v34 h
theorem n12_eq {R : Type} (k : Nat) (G : KT5 R) (σ : GS) (h : Heap) : KC k 36 c12 σ h (fun x σ h => G x (σ 2) (σ 6) (σ 25) (σ 26) (σ 27) h) = n12 k G (σ 2) (σ 6) (σ 25) (σ 26) (σ 27) h := by kernel_rfl
noncomputable def c13 : Code := cL c11
noncomputable def c14 : Code := cL c13
@[simp] def n14 {R : Type} (k : Nat) (G : KT5 R) (v2 v6 v25 v26 v27 : GV) (h : Heap) : Option R := (kia 1 v25 v27).bind fun v29 => (kload1 h v29).bind fun v30 => (kapp [(.str { data := #[] })] 1 16 v6 v30 h).bind fun r => kr r fun v33 h => G .nrm v2 v33 v25 v26 v27 h
theorem n14_eq {R : Type} (k : Nat) (G : KT5 R) (σ : GS) (h : Heap) : KC k 36 c14 σ h (fun x σ h => G x (σ 2) (σ 6) (σ 25) (σ 26) (σ 27) h) = n14 k G (σ 2) (σ 6) (σ 25) (σ 26) (σ 27) h := by kernel_rfl
@[simp] def n13 {R : Type} (k : Nat) (G : KT5 R) (v2 v6 v25 v26 v27 : GV) (h : Heap) : Option R := n14 k (fun x v2 v6 v25 v26 v27 h => kb 3 x fun x => G x v2 v6 v25 v26 v27 h) v2 v6 v25 v26 v27 h
theorem n13_eq {R : Type} (k : Nat) (G : KT5 R) (σ : GS) (h : Heap) : KC k 36 c13 σ h (fun x σ h => G x (σ 2) (σ 6) (σ 25) (σ 26) (σ 27) h) = n13 k G (σ 2) (σ 6) (σ 25) (σ 26) (σ 27) h := (kblock_eq (a := c14) rfl).trans (n14_eq k (fun x v2 v6 v25 v26 v27 h => kb 3 x fun x => G x v2 v6 v25 v26 v27 h) σ h)
@[simp] def n11 {R : Type} (k : Nat) (G : KT5 R) (v2 v6 v25 v26 v27 : GV) (h : Heap) : Option R := n13 k (fun x v2 v6 v25 v26 v27 h => kx x (n12 k G v2 v6 v25 v26 v27 h) (G x v2 v6 v25 v26 v27 h)) v2 v6 v25 v26 v27 h
theorem n11_eq {R : Type} (k : Nat) (G : KT5 R) (σ : GS) (h : Heap) : KC k 36 c11 σ h (fun x σ h => G x (σ 2) (σ 6) (σ 25) (σ 26) (σ 27) h) = n11 k G (σ 2) (σ 6) (σ 25) (σ 26) (σ 27) h := (kseq (b := c12) rfl (fun σ h => n12_eq k G σ h)).trans (n13_eq k (fun x v2 v6 v25 v26 v27 h => kx x (n12 k G v2 v6 v25 v26 v27 h) (G x v2 v6 v25 v26 v27 h)) σ h)
noncomputable def c15 : Code := cL c10
@[simp] def n10 {R : Type} (k : Nat) (G : KT5 R) (v2 v6 v25 v26 v27 v28 : GV) (h : Heap) : Option R := kcond v28 (n11 k G v2 v6 v25 v26 v27 h) (G (.ext 2) v2 v6 v25 v26 v27 h)
theorem n10_eq0 {R : Type} (k : Nat) (G : KT5 R) (σ : GS) (h : Heap) : KC k 36 c15 σ h (fun x σ h => kx x (n11 k G (σ 2) (σ 6) (σ 25) (σ 26) (σ 27) h) (G x (σ 2) (σ 6) (σ 25) (σ 26) (σ 27) h)) = n10 k G (σ 2) (σ 6) (σ 25) (σ 26) (σ 27) (σ 28) h := by kernel_rfl
theorem n10_eq {R : Type} (k : Nat) (G : KT5 R) (σ : GS) (h : Heap) : KC k 36 c10 σ h (fun x σ h => G x (σ 2) (σ 6) (σ 25) (σ 26) (σ 27) h) = n10 k G (σ 2) (σ 6) (σ 25) (σ 26) (σ 27) (σ 28) h := (kseq (b := c11) rfl (fun σ h => n11_eq k G σ h)).trans (n10_eq0 k G σ h)
noncomputable def c16 : Code := cL c9
@[simp] def n9 {R : Type} (k : Nat) (G : KT5 R) (v2 v6 v25 v26 v27 : GV) (h : Heap) : Option R := (kbin .lss v27 v26).bind fun v28 => n10 k G v2 v6 v25 v26 v27 v28 h
theorem n9_eq0 {R : Type} (k : Nat) (G : KT5 R) (σ : GS) (h : Heap) : KC k 36 c16 σ h (fun x σ h => kx x (n10 k G (σ 2) (σ 6) (σ 25) (σ 26) (σ 27) (σ 28) h) (G x (σ 2) (σ 6) (σ 25) (σ 26) (σ 27) h)) = n9 k G (σ 2) (σ 6) (σ 25) (σ 26) (σ 27) h := by kernel_rfl
theorem n9_eq {R : Type} (k : Nat) (G : KT5 R) (σ : GS) (h : Heap) : KC k 36 c9 σ h (fun x σ h => G x (σ 2) (σ 6) (σ 25) (σ 26) (σ 27) h) = n9 k G (σ 2) (σ 6) (σ 25) (σ 26) (σ 27) h := (kseq (b := c10) rfl (fun σ h => n10_eq k G σ h)).trans (n9_eq0 k G σ h)
def l8 {R : Type} (k : Nat) (G : KT2 R) : Nat → GV → GV → GV → GV → GV → Heap → Option R
  | 0, _, _, _, _, _, _ => none
  | r + 1, v2, v6, v25, v26, v27, h => n9 k (fun x v2 v6 v25 v26 v27 h => kx x (l8 k G r v2 v6 v25 v26 v27 h) (G x v2 v6 h)) v2 v6 v25 v26 v27 h
theorem l8_eq {R : Type} (k : Nat) (G : KT2 R) : ∀ (r : Nat) (σ : GS) (h : Heap), kloop (fun σ h K => KC k 36 c9 σ h K) r σ h (fun x σ h => G x (σ 2) (σ 6) h) = l8 k G r (σ 2) (σ 6) (σ 25) (σ 26) (σ 27) h
  | 0, _, _ => rfl
  | r + 1, σ, h => (kloop_eq (fun σ h => l8_eq k G r σ h)).trans (n9_eq k (fun x v2 v6 v25 v26 v27 h => kx x (l8 k G r v2 v6 v25 v26 v27 h) (G x v2 v6 h)) σ h)
@[simp] def n8 {R : Type} (k : Nat) (G : KT2 R) (v2 v6 v25 v26 v27 : GV) (h : Heap) : Option R := l8 k G k v2 v6 v25 v26 v27 h
theorem n8_eq {R : Type} (k : Nat) (G : KT2 R) (σ : GS) (h : Heap) : KC k 36 c8 σ h (fun x σ h => G x (σ 2) (σ 6) h) = n8 k G (σ 2) (σ 6) (σ 25) (σ 26) (σ 27) h := (kloopc_eq (a := c9) rfl).trans (l8_eq k G k σ h)
@[simp] def n7 {R : Type} (k : Nat) (G : KT2 R) (v2 v6 v25 v26 v27 : GV) (h : Heap) : Option R := n8 k (fun x v2 v6 h => kb 2 x fun x => G x v2 v6 h) v2 v6 v25 v26 v27 h
theorem n7_eq {R : Type} (k : Nat) (G : KT2 R) (σ : GS) (h : Heap) : KC k 36 c7 σ h (fun x σ h => G x (σ 2) (σ 6) h) = n7 k G (σ 2) (σ 6) (σ 25) (σ 26) (σ 27) h := (kblock_eq (a := c8) rfl).trans (n8_eq k (fun x v2 v6 h => kb 2 x fun x => G x v2 v6 h) σ h)
noncomputable def c17 : Code := cL c6
@[simp] def n6 {R : Type} (k : Nat) (G : KT2 R) (v0 v2 v6 : GV) (h : Heap) : Option R := (klen v0).bind fun v26 => n7 k G v2 v6 v0 v26 (.int .i64 0) h
theorem n6_eq0 {R : Type} (k : Nat) (G : KT2 R) (σ : GS) (h : Heap) : KC k 36 c17 σ h (fun x σ h => kx x (n7 k G (σ 2) (σ 6) (σ 25) (σ 26) (σ 27) h) (G x (σ 2) (σ 6) h)) = n6 k G (σ 0) (σ 2) (σ 6) h := by kernel_rfl
theorem n6_eq {R : Type} (k : Nat) (G : KT2 R) (σ : GS) (h : Heap) : KC k 36 c6 σ h (fun x σ h => G x (σ 2) (σ 6) h) = n6 k G (σ 0) (σ 2) (σ 6) h := (kseq (b := c7) rfl (fun σ h => n7_eq k G σ h)).trans (n6_eq0 k G σ h)
@[simp] def n4 {R : Type} (k : Nat) (G : KT1 R) (v0 v2 v6 : GV) (h : Heap) : Option R := n6 k (fun x v2 v6 h => kx x (n5 k G v6 h) (G x v2 h)) v0 v2 v6 h
theorem n4_eq {R : Type} (k : Nat) (G : KT1 R) (σ : GS) (h : Heap) : KC k 36 c4 σ h (fun x σ h => G x (σ 2) h) = n4 k G (σ 0) (σ 2) (σ 6) h := (kseq (b := c5) rfl (fun σ h => n5_eq k G σ h)).trans (n6_eq k (fun x v2 v6 h => kx x (n5 k G v6 h) (G x v2 h)) σ h)
noncomputable def c18 : Code := cL c3
@[simp] def n3 {R : Type} (k : Nat) (G : KT1 R) (v0 v2 v3 : GV) (h : Heap) : Option R := (HH fn.slices_Grow_string [.nils, v3] h).bind fun r => kr r fun v24 h => n4 k G v0 v2 v24 h
theorem n3_eq0 {R : Type} (k : Nat) (G : KT1 R) (σ : GS) (h : Heap) : KC k 36 c18 σ h (fun x σ h => kx x (n4 k G (σ 0) (σ 2) (σ 6) h) (G x (σ 2) h)) = n3 k G (σ 0) (σ 2) (σ 3) h := by kernel_rfl
theorem n3_eq {R : Type} (k : Nat) (G : KT1 R) (σ : GS) (h : Heap) : KC k 36 c3 σ h (fun x σ h => G x (σ 2) h) = n3 k G (σ 0) (σ 2) (σ 3) h := (kseq (b := c4) rfl (fun σ h => n4_eq k G σ h)).trans (n3_eq0 k G σ h)
noncomputable def c19 : Code := cL c2
noncomputable def c20 : Code := cR c19
noncomputable def c21 : Code := cL c20
noncomputable def c22 : Code := cL c21
noncomputable def c23 : Code := cR c22
noncomputable def c24 : Code := cR c23
noncomputable def c25 : Code := cR c24
@[simp] def n25 {R : Type} (k : Nat) (G : KT6 R) (v0 v2 v3 v9 v10 v11 : GV) (h : Heap) : Option R := (kbin .add v11 (.int .i64 1)).bind fun v22 => G .nrm v0 v2 v3 v9 v10 v22 h
theorem n25_eq {R : Type} (k : Nat) (G : KT6 R) (σ : GS) (h : Heap) : KC k 36 c25 σ h (fun x σ h => G x (σ 0) (σ 2) (σ 3) (σ 9) (σ 10) (σ 11) h) = n25 k G (σ 0) (σ 2) (σ 3) (σ 9) (σ 10) (σ 11) h := by kernel_rfl
noncomputable def c26 : Code := cL c24
noncomputable def c27 : Code := cL c26
@[simp] def n27 {R : Type} (k : Nat) (G : KT6 R) (v0 v2 v3 v9 v10 v11 : GV) (h : Heap) : Option R := (kia 1 v9 v11).bind fun v13 => (kload1 h v13).bind fun v14 => (klen v14).bind fun v17 => (kbin .add v3 v17).bind fun v18 => (kbin .lss v18 (.int .i64 0)).bind fun v20 => kcond v20 (none) (G .nrm v0 v2 v18 v9 v10 v11 h)
theorem n27_eq {R : Type} (k : Nat) (G : KT6 R) (σ : GS) (h : Heap) : KC k 36 c27 σ h (fun x σ h => G x (σ 0) (σ 2) (σ 3) (σ 9) (σ 10) (σ 11) h) = n27 k G (σ 0) (σ 2) (σ 3) (σ 9) (σ 10) (σ 11) h := by kernel_rfl
@[simp] def n26 {R : Type} (k : Nat) (G : KT6 R) (v0 v2 v3 v9 v10 v11 : GV) (h : Heap) : Option R := n27 k (fun x v0 v2 v3 v9 v10 v11 h => kb 1 x fun x => G x v0 v2 v3 v9 v10 v11 h) v0 v2 v3 v9 v10 v11 h
theorem n26_eq {R : Type} (k : Nat) (G : KT6 R) (σ : GS) (h : Heap) : KC k 36 c26 σ h (fun x σ h => G x (σ 0) (σ 2) (σ 3) (σ 9) (σ 10) (σ 11) h) = n26 k G (σ 0) (σ 2) (σ 3) (σ 9) (σ 10) (σ 11) h := (kblock_eq (a := c27) rfl).trans (n27_eq k (fun x v0 v2 v3 v9 v10 v11 h => kb 1 x fun x => G x v0 v2 v3 v9 v10 v11 h) σ h)
@[simp] def n24 {R : Type} (k : Nat) (G : KT6 R) (v0 v2 v3 v9 v10 v11 : GV) (h : Heap) : Option R := n26 k (fun x v0 v2 v3 v9 v10 v11 h => kx x (n25 k G v0 v2 v3 v9 v10 v11 h) (G x v0 v2 v3 v9 v10 v11 h)) v0 v2 v3 v9 v10 v11 h
theorem n24_eq {R : Type} (k : Nat) (G : KT6 R) (σ : GS) (h : Heap) : KC k 36 c24 σ h (fun x σ h => G x (σ 0) (σ 2) (σ 3) (σ 9) (σ 10) (σ 11) h) = n24 k G (σ 0) (σ 2) (σ 3) (σ 9) (σ 10) (σ 11) h := (kseq (b := c25) rfl (fun σ h => n25_eq k G σ h)).trans (n26_eq k (fun x v0 v2 v3 v9 v10 v11 h => kx x (n25 k G v0 v2 v3 v9 v10 v11 h) (G x v0 v2 v3 v9 v10 v11 h)) σ h)
noncomputable def c28 : Code := cL c23
@[simp] def n23 {R : Type} (k : Nat) (G : KT6 R) (v0 v2 v3 v9 v10 v11 v12 : GV) (h : Heap) : Option R := kcond v12 (n24 k G v0 v2 v3 v9 v10 v11 h) (G (.ext 0) v0 v2 v3 v9 v10 v11 h)
theorem n23_eq0 {R : Type} (k : Nat) (G : KT6 R) (σ : GS) (h : Heap) : KC k 36 c28 σ h (fun x σ h => kx x (n24 k G (σ 0) (σ 2) (σ 3) (σ 9) (σ 10) (σ 11) h) (G x (σ 0) (σ 2) (σ 3) (σ 9) (σ 10) (σ 11) h)) = n23 k G (σ 0) (σ 2) (σ 3) (σ 9) (σ 10) (σ 11) (σ 12) h := by kernel_rfl
theorem n23_eq {R : Type} (k : Nat) (G : KT6 R) (σ : GS) (h : Heap) : KC k 36 c23 σ h (fun x σ h => G x (σ 0) (σ 2) (σ 3) (σ 9) (σ 10) (σ 11) h) = n23 k G (σ 0) (σ 2) (σ 3) (σ 9) (σ 10) (σ 11) (σ 12) h := (kseq (b := c24) rfl (fun σ h => n24_eq k G σ h)).trans (n23_eq0 k G σ h)
noncomputable def c29 : Code := cL c22
@[simp] def n22 {R : Type} (k : Nat) (G : KT6 R) (v0 v2 v3 v9 v10 v11 : GV) (h : Heap) : Option R := (kbin .lss v11 v10).bind fun v12 => n23 k G v0 v2 v3 v9 v10 v11 v12 h
theorem n22_eq0 {R : Type} (k : Nat) (G : KT6 R) (σ : GS) (h : Heap) : KC k 36 c29 σ h (fun x σ h => kx x (n23 k G (σ 0) (σ 2) (σ 3) (σ 9) (σ 10) (σ 11) (σ 12) h) (G x (σ 0) (σ 2) (σ 3) (σ 9) (σ 10) (σ 11) h)) = n22 k G (σ 0) (σ 2) (σ 3) (σ 9) (σ 10) (σ 11) h := by kernel_rfl
theorem n22_eq {R : Type} (k : Nat) (G : KT6 R) (σ : GS) (h : Heap) : KC k 36 c22 σ h (fun x σ h => G x (σ 0) (σ 2) (σ 3) (σ 9) (σ 10) (σ 11) h) = n22 k G (σ 0) (σ 2) (σ 3) (σ 9) (σ 10) (σ 11) h := (kseq (b := c23) rfl (fun σ h => n23_eq k G σ h)).trans (n22_eq0 k G σ h)
def l21 {R : Type} (k : Nat) (G : KT3 R) : Nat → GV → GV → GV → GV → GV → GV → Heap → Option R
  | 0, _, _, _, _, _, _, _ => none
  | r + 1, v0, v2, v3, v9, v10, v11, h => n22 k (fun x v0 v2 v3 v9 v10 v11 h => kx x (l21 k G r v0 v2 v3 v9 v10 v11 h) (G x v0 v2 v3 h)) v0 v2 v3 v9 v10 v11 h
theorem l21_eq {R : Type} (k : Nat) (G : KT3 R) : ∀ (r : Nat) (σ : GS) (h : Heap), kloop (fun σ h K => KC k 36 c22 σ h K) r σ h (fun x σ h => G x (σ 0) (σ 2) (σ 3) h) = l21 k G r (σ 0) (σ 2) (σ 3) (σ 9) (σ 10) (σ 11) h
  | 0, _, _ => rfl
  | r + 1, σ, h => (kloop_eq (fun σ h => l21_eq k G r σ h)).trans (n22_eq k (fun x v0 v2 v3 v9 v10 v11 h => kx x (l21 k G r v0 v2 v3 v9 v10 v11 h) (G x v0 v2 v3 h)) σ h)
@[simp] def n21 {R : Type} (k : Nat) (G : KT3 R) (v0 v2 v3 v9 v10 v11 : GV) (h : Heap) : Option R := l21 k G k v0 v2 v3 v9 v10 v11 h
theorem n21_eq {R : Type} (k : Nat) (G : KT3 R) (σ : GS) (h : Heap) : KC k 36 c21 σ h (fun x σ h => G x (σ 0) (σ 2) (σ 3) h) = n21 k G (σ 0) (σ 2) (σ 3) (σ 9) (σ 10) (σ 11) h := (kloopc_eq (a := c22) rfl).trans (l21_eq k G k σ h)
@[simp] def n20 {R : Type} (k : Nat) (G : KT3 R) (v0 v2 v3 v9 v10 v11 : GV) (h : Heap) : Option R := n21 k (fun x v0 v2 v3 h => kb 0 x fun x => G x v0 v2 v3 h) v0 v2 v3 v9 v10 v11 h
theorem n20_eq {R : Type} (k : Nat) (G : KT3 R) (σ : GS) (h : Heap) : KC k 36 c20 σ h (fun x σ h => G x (σ 0) (σ 2) (σ 3) h) = n20 k G (σ 0) (σ 2) (σ 3) (σ 9) (σ 10) (σ 11) h := (kblock_eq (a := c21) rfl).trans (n21_eq k (fun x v0 v2 v3 h => kb 0 x fun x => G x v0 v2 v3 h) σ h)
noncomputable def c30 : Code := cL c19
@[simp] def n19 {R : Type} (k : Nat) (G : KT3 R) (v0 v2 v3 : GV) (h : Heap) : Option R := (klen v0).bind fun v10 => n20 k G v0 v2 v3 v0 v10 (.int .i64 0) h
theorem n19_eq0 {R : Type} (k : Nat) (G : KT3 R) (σ : GS) (h : Heap) : KC k 36 c30 σ h (fun x σ h => kx x (n20 k G (σ 0) (σ 2) (σ 3) (σ 9) (σ 10) (σ 11) h) (G x (σ 0) (σ 2) (σ 3) h)) = n19 k G (σ 0) (σ 2) (σ 3) h := by kernel_rfl
theorem n19_eq {R : Type} (k : Nat) (G : KT3 R) (σ : GS) (h : Heap) : KC k 36 c19 σ h (fun x σ h => G x (σ 0) (σ 2) (σ 3) h) = n19 k G (σ 0) (σ 2) (σ 3) h := (kseq (b := c20) rfl (fun σ h => n20_eq k G σ h)).trans (n19_eq0 k G σ h)
@[simp] def n2 {R : Type} (k : Nat) (G : KT1 R) (v0 v2 v3 : GV) (h : Heap) : Option R := n19 k (fun x v0 v2 v3 h => kx x (n3 k G v0 v2 v3 h) (G x v2 h)) v0 v2 v3 h
theorem n2_eq {R : Type} (k : Nat) (G : KT1 R) (σ : GS) (h : Heap) : KC k 36 c2 σ h (fun x σ h => G x (σ 2) h) = n2 k G (σ 0) (σ 2) (σ 3) h := (kseq (b := c3) rfl (fun σ h => n3_eq k G σ h)).trans (n19_eq k (fun x v0 v2 v3 h => kx x (n3 k G v0 v2 v3 h) (G x v2 h)) σ h)
noncomputable def c31 : Code := cL c1
@[simp] def n1 {R : Type} (k : Nat) (G : KT1 R) (v0 v2 : GV) (h : Heap) : Option R := n2 k G v0 v2 (.int .i64 0) h
theorem n1_eq0 {R : Type} (k : Nat) (G : KT1 R) (σ : GS) (h : Heap) : KC k 36 c31 σ h (fun x σ h => kx x (n2 k G (σ 0) (σ 2) (σ 3) h) (G x (σ 2) h)) = n1 k G (σ 0) (σ 2) h := by kernel_rfl
theorem n1_eq {R : Type} (k : Nat) (G : KT1 R) (σ : GS) (h : Heap) : KC k 36 c1 σ h (fun x σ h => G x (σ 2) h) = n1 k G (σ 0) (σ 2) h := (kseq (b := c2) rfl (fun σ h => n2_eq k G σ h)).trans (n1_eq0 k G σ h)
noncomputable def c32 : Code := cL c0
@[simp] def n0 {R : Type} (k : Nat) (G : KT1 R) (v0 : GV) (h : Heap) : Option R := n1 k G v0 .nils h
theorem n0_eq0 {R : Type} (k : Nat) (G : KT1 R) (σ : GS) (h : Heap) : KC k 36 c32 σ h (fun x σ h => kx x (n1 k G (σ 0) (σ 2) h) (G x (σ 2) h)) = n0 k G (σ 0) h := by kernel_rfl
theorem n0_eq {R : Type} (k : Nat) (G : KT1 R) (σ : GS) (h : Heap) : KC k 36 c0 σ h (fun x σ h => G x (σ 2) h) = n0 k G (σ 0) h := (kseq (b := c1) rfl (fun σ h => n1_eq k G σ h)).trans (n0_eq0 k G σ h)
def run {R : Type} (k : Nat) (a0 : GV) (h : Heap) (fin : GV → Heap → Option R) : Option R := n0 k (fun x v2 h => kend x (fin v2 h)) a0 h
theorem run_eq {R : Type} (k : Nat) (a0 : GV) (h : Heap) (fin : GV → Heap → Option R) : kfun PP cfg NN HH k fn.slices_Concat_string [a0] h fin = run k a0 h fin := (kfun_eq (nt := 36) (c := c0) (show PP.funcs[fn.slices_Concat_string]? = some Try.f102 by kernel_rfl) (by kernel_rfl) (by kernel_rfl) (fun x σ h => by cases x <;> kernel_rfl)).trans (n0_eq k (fun x v2 h => kend x (fin v2 h)) _ h)
theorem gives {k : Nat} {a0 : GV} {v : GV} (e : run k a0 [] finN = some v) : NN fn.slices_Concat_string [a0] = some v := nω_of (by kernel_rfl) ((run_eq k a0 [] finN).trans e)
end S.slices_Concat_string
/-! impl_areUp -/
namespace S.impl_areUp
noncomputable def c0 : Code := bodyOf Try.f103
noncomputable def c1 : Code := cR c0
noncomputable def c2 : Code := cR c1
@[simp] def n2 {R : Type} (k : Nat) (G : KT1 R) (v6 : GV) (h : Heap) : Option R := G .ret v6 h
theorem n2_eq {R : Type} (k : Nat) (G : KT1 R) (σ : GS) (h : Heap) : KC k 15 c2 σ h (fun x σ h => G x (σ 6) h) = n2 k G (σ 6) h := by kernel_rfl
noncomputable def c3 : Code := cL c1
noncomputable def o3 : Array Oper := cO c3
@[simp] def g3_2 {R : Type} (k : Nat) (G : KT1 R) (v9 v13 : GV) (h : Heap) : Option R := (kpick v9 v13 (.bool false)).bind fun v14 => G .nrm v14 h
theorem g3_2_eq {R : Type} (k : Nat) (G : KT1 R) (σ : GS) (h : Heap) : kgroups PP cfg NN HH 15 o3 [(none, [7, 8])] σ h (fun σ h => G .nrm (σ 6) h) = g3_2 k G (σ 9) (σ 13) h := by kernel_rfl
@[simp] def g3_1 {R : Type} (k : Nat) (G : KT1 R) (v0 v4 v5 v9 : GV) (h : Heap) : Option R := bif tr true v9 then (kN NN fn.slices_ContainsFunc_int64 [v0, (.fn fn.impl_areUp_1 [v4, v5])] h).bind fun v12 => (kun .not v12).bind fun v13 => g3_2 k G v9 v13 h else g3_2 k G v9 .un h
theorem g3_1_eq0 {R : Type} (k : Nat) (G : KT1 R) (σ : GS) (h : Heap) : kgroup1 PP cfg NN HH 15 o3 (some (2, true), [3, 4, 5, 6]) σ h (fun σ h => g3_2 k G (σ 9) (σ 13) h) = g3_1 k G (σ 0) (σ 4) (σ 5) (σ 9) h := by kernel_rfl
theorem g3_1_eq {R : Type} (k : Nat) (G : KT1 R) (σ : GS) (h : Heap) : kgroups PP cfg NN HH 15 o3 [(some (2, true), [3, 4, 5, 6]), (none, [7, 8])] σ h (fun σ h => G .nrm (σ 6) h) = g3_1 k G (σ 0) (σ 4) (σ 5) (σ 9) h := (kgroups_cons (fun σ h => g3_2_eq k G σ h)).trans (g3_1_eq0 k G σ h)
@[simp] def g3_0 {R : Type} (k : Nat) (G : KT1 R) (v0 v4 v5 : GV) (h : Heap) : Option R := (kN NN fn.slices_IsSorted_int64 [v0] h).bind fun v8 => g3_1 k G v0 v4 v5 v8 h
theorem g3_0_eq0 {R : Type} (k : Nat) (G : KT1 R) (σ : GS) (h : Heap) : kgroup1 PP cfg NN HH 15 o3 (none, [0, 1, 2]) σ h (fun σ h => g3_1 k G (σ 0) (σ 4) (σ 5) (σ 9) h) = g3_0 k G (σ 0) (σ 4) (σ 5) h := by kernel_rfl
theorem g3_0_eq {R : Type} (k : Nat) (G : KT1 R) (σ : GS) (h : Heap) : kgroups PP cfg NN HH 15 o3 [(none, [0, 1, 2]), (some (2, true), [3, 4, 5, 6]), (none, [7, 8])] σ h (fun σ h => G .nrm (σ 6) h) = g3_0 k G (σ 0) (σ 4) (σ 5) h := (kgroups_cons (fun σ h => g3_1_eq k G σ h)).trans (g3_0_eq0 k G σ h)
@[simp] def n3 {R : Type} (k : Nat) (G : KT1 R) (v0 v4 v5 : GV) (h : Heap) : Option R := g3_0 k G v0 v4 v5 h
theorem n3_eq {R : Type} (k : Nat) (G : KT1 R) (σ : GS) (h : Heap) : KC k 15 c3 σ h (fun x σ h => G x (σ 6) h) = n3 k G (σ 0) (σ 4) (σ 5) h := (kregion_eq (id := 1) (draw := false) (ops := o3) (gs := [(none, [0, 1, 2]), (some (2, true), [3, 4, 5, 6]), (none, [7, 8])]) (by kernel_rfl) (by kernel_rfl) (by kernel_rfl)).trans (g3_0_eq k G σ h)
@[simp] def n1 {R : Type} (k : Nat) (G : KT1 R) (v0 v4 v5 : GV) (h : Heap) : Option R := n3 k (fun x v6 h => kx x (n2 k G v6 h) (G x v6 h)) v0 v4 v5 h
theorem n1_eq {R : Type} (k : Nat) (G : KT1 R) (σ : GS) (h : Heap) : KC k 15 c1 σ h (fun x σ h => G x (σ 6) h) = n1 k G (σ 0) (σ 4) (σ 5) h := (kseq (b := c2) rfl (fun σ h => n2_eq k G σ h)).trans (n3_eq k (fun x v6 h => kx x (n2 k G v6 h) (G x v6 h)) σ h)
noncomputable def c4 : Code := cL c0
@[simp] def n0 {R : Type} (k : Nat) (G : KT1 R) (v0 v1 v2 : GV) (h : Heap) : Option R := kbox v1 h fun v4 h => kbox v2 h fun v5 h => n1 k G v0 v4 v5 h
theorem n0_eq0 {R : Type} (k : Nat) (G : KT1 R) (σ : GS) (h : Heap) : KC k 15 c4 σ h (fun x σ h => kx x (n1 k G (σ 0) (σ 4) (σ 5) h) (G x (σ 6) h)) = n0 k G (σ 0) (σ 1) (σ 2) h := by kernel_rfl
theorem n0_eq {R : Type} (k : Nat) (G : KT1 R) (σ : GS) (h : Heap) : KC k 15 c0 σ h (fun x σ h => G x (σ 6) h) = n0 k G (σ 0) (σ 1) (σ 2) h := (kseq (b := c1) rfl (fun σ h => n1_eq k G σ h)).trans (n0_eq0 k G σ h)
def run {R : Type} (k : Nat) (a0 : GV) (a1 : GV) (a2 : GV) (h : Heap) (fin : GV → Heap → Option R) : Option R := n0 k (fun x v6 h => kend x (fin v6 h)) a0 a1 a2 h
theorem run_eq {R : Type} (k : Nat) (a0 : GV) (a1 : GV) (a2 : GV) (h : Heap) (fin : GV → Heap → Option R) : kfun PP cfg NN HH k fn.impl_areUp [a0, a1, a2] h fin = run k a0 a1 a2 h fin := (kfun_eq (nt := 15) (c := c0) (show PP.funcs[fn.impl_areUp]? = some Try.f103 by kernel_rfl) (by kernel_rfl) (by kernel_rfl) (fun x σ h => by cases x <;> kernel_rfl)).trans (n0_eq k (fun x v6 h => kend x (fin v6 h)) _ h)
theorem gives {k : Nat} {a0 : GV} {a1 : GV} {a2 : GV} {v : GV} (e : run k a0 a1 a2 [] finN = some v) : NN fn.impl_areUp [a0, a1, a2] = some v := nω_of (by kernel_rfl) ((run_eq k a0 a1 a2 [] finN).trans e)
end S.impl_areUp
/-! slices_Clone_int64 -/
namespace S.slices_Clone_int64
noncomputable def c0 : Code := bodyOf Try.f105
@[simp] def n0 {R : Type} (k : Nat) (G : KT1 R) (v0 : GV) (h : Heap) : Option R := (gbinop PP .eql 58 (.tmp 3) (.const (.slice none 0 0)) v0 .nils).bind fun v4 => kcond v4 (G .ret .nils h) ((kapp [(.int .i64 0)] 1 8 .emp v0 h).bind fun r => kr r fun v7 h => G .ret v7 h)
theorem n0_eq {R : Type} (k : Nat) (G : KT1 R) (σ : GS) (h : Heap) : KC k 8 c0 σ h (fun x σ h => G x (σ 2) h) = n0 k G (σ 0) h := by kernel_rfl
def run {R : Type} (k : Nat) (a0 : GV) (h : Heap) (fin : GV → Heap → Option R) : Option R := n0 k (fun x v2 h => kend x (fin v2 h)) a0 h
theorem run_eq {R : Type} (k : Nat) (a0 : GV) (h : Heap) (fin : GV → Heap → Option R) : kfun PP cfg NN HH k fn.slices_Clone_int64 [a0] h fin = run k a0 h fin := (kfun_eq (nt := 8) (c := c0) (show PP.funcs[fn.slices_Clone_int64]? = some Try.f105 by kernel_rfl) (by kernel_rfl) (by kernel_rfl) (fun x σ h => by cases x <;> kernel_rfl)).trans (n0_eq k (fun x v2 h => kend x (fin v2 h)) _ h)
theorem gives {k : Nat} {a0 : GV} {b : Nat} {q : GV × List (List GV)} (e : run k a0 [] (finO b) = some q) : OO fn.slices_Clone_int64 [a0] b = some q := oω_of ((run_eq k a0 [] (finO b)).trans e)
end S.slices_Clone_int64
/-! impl_Chain_copied -/
namespace S.impl_Chain_copied
noncomputable def c0 : Code := bodyOf Try.f121
noncomputable def c1 : Code := cR c0
noncomputable def c2 : Code := cR c1
noncomputable def c3 : Code := cR c2
noncomputable def c4 : Code := cR c3
@[simp] def n4 {R : Type} (k : Nat) (G : KT1 R) (v2 v3 : GV) (h : Heap) : Option R := (kloadA 3 h v3).bind fun v56 => (kstore 3 h v2 v56).bind fun h => G .ret v2 h
theorem n4_eq {R : Type} (k : Nat) (G : KT1 R) (σ : GS) (h : Heap) : KC k 57 c4 σ h (fun x σ h => G x (σ 2) h) = n4 k G (σ 2) (σ 3) h := by kernel_rfl
noncomputable def c5 : Code := cL c3
noncomputable def c6 : Code := cR c5
noncomputable def c7 : Code := cL c6
noncomputable def c8 : Code := cL c7
noncomputable def c9 : Code := cR c8
noncomputable def c10 : Code := cR c9
noncomputable def c11 : Code := cR c10
@[simp] def n11 {R : Type} (k : Nat) (G : KT5 R) (v1 v2 v3 v29 v30 : GV) (h : Heap) : Option R := (kbin .add v30 (.int .i64 1)).bind fun v55 => G .nrm v1 v2 v3 v29 v55 h
theorem n11_eq {R : Type} (k : Nat) (G : KT5 R) (σ : GS) (h : Heap) : KC k 57 c11 σ h (fun x σ h => G x (σ 1) (σ 2) (σ 3) (σ 29) (σ 30) h) = n11 k G (σ 1) (σ 2) (σ 3) (σ 29) (σ 30) h := by kernel_rfl
noncomputable def c12 : Code := cL c10
noncomputable def c13 : Code := cL c12
noncomputable def c14 : Code := cR c13
noncomputable def o14 : Array Oper := cO c14
@[simp] def g14_0 {R : Type} (k : Nat) (G : KT5 R) (v1 v2 v3 v6 v29 v30 : GV) (rs : List Rec) (h : Heap) : Option R := (kfa 1 v3).bind fun v33 => (kload1 h v33).bind fun v34 => (kfa 1 v1).bind fun v35 => (kload1 h v35).bind fun v36 => (kia 1 v36 v6).bind fun v38 => (kload1 h v38).bind fun v39 => kold h fun h0 => (kF true HH fn.slices_Clone_string [v39] h).bind fun r => kr r fun v40 h => krs (rs ++ [⟨7, h0.length, h.length, ⟨[v39].flatMap (kborr h0), []⟩⟩]) fun rs => kold h fun h0 => (gfill (fun i => some (i * 1, 1)) (zeros [.nils] 1) [(0, v40)]).bind fun c => kbs 1 1 c h fun v41 h => krs (rs ++ [⟨8, h0.length, h.length, ⟨[], []⟩⟩]) fun rs => kold h fun h0 => (kapp [.nils] 1 24 v34 v41 h).bind fun r => kr r fun v42 h => krs (rs ++ [⟨9, h0.length, h.length, ⟨kblk v34 ++ kblk v41, kblk v34⟩⟩]) fun rs => (kfa 2 v3).bind fun v43 => kold h fun h0 => (kload1 h v43).bind fun v44 => krs (rs ++ [⟨11, h0.length, h.length, ⟨kblk v43, []⟩⟩]) fun rs => (kfa 2 v1).bind fun v45 => kold h fun h0 => (kload1 h v45).bind fun v46 => krs (rs ++ [⟨13, h0.length, h.length, ⟨kblk v45, []⟩⟩]) fun rs => (kia 1 v46 v6).bind fun v48 => kold h fun h0 => (kload1 h v48).bind fun v49 => krs (rs ++ [⟨16, h0.length, h.length, ⟨kblk v48, []⟩⟩]) fun rs => (kF true HH fn.slices_Clone_int64 [v49] h).bind fun r => kr r fun v50 h => (gfill (fun i => some (i * 1, 1)) (zeros [.nils] 1) [(0, v50)]).bind fun c => kbs 1 1 c h fun v51 h => (kapp [.nils] 1 24 v44 v51 h).bind fun r => kr r fun v52 h => (kfa 1 v3).bind fun v53 => (kstore 1 h v53 v42).bind fun h => (kfa 2 v3).bind fun v54 => (kstore 1 h v54 v52).bind fun h => bif chk [(7, 11), (7, 13), (7, 16), (8, 11), (8, 13), (8, 16), (9, 11), (9, 13), (9, 16)] rs then G .nrm v1 v2 v3 v29 v30 h else none
theorem g14_0_eq {R : Type} (k : Nat) (G : KT5 R) (rs : List Rec) (σ : GS) (h : Heap) : kgroupsD PP cfg NN HH 57 o14 [(7, 11), (7, 13), (7, 16), (8, 11), (8, 13), (8, 16), (9, 11), (9, 13), (9, 16)] [(none, [0, 1, 2, 3, 4, 5, 6, 7, 8, 9, 10, 11, 12, 13, 14, 15, 16, 17, 18, 19, 20, 21, 22, 23])] rs σ h (fun rs σ h => bif chk [(7, 11), (7, 13), (7, 16), (8, 11), (8, 13), (8, 16), (9, 11), (9, 13), (9, 16)] rs then G .nrm (σ 1) (σ 2) (σ 3) (σ 29) (σ 30) h else none) = g14_0 k G (σ 1) (σ 2) (σ 3) (σ 6) (σ 29) (σ 30) rs h := by kernel_rfl
@[simp] def n14 {R : Type} (k : Nat) (G : KT5 R) (v1 v2 v3 v6 v29 v30 : GV) (h : Heap) : Option R := g14_0 k G v1 v2 v3 v6 v29 v30 [] h
theorem n14_eq {R : Type} (k : Nat) (G : KT5 R) (σ : GS) (h : Heap) : KC k 57 c14 σ h (fun x σ h => G x (σ 1) (σ 2) (σ 3) (σ 29) (σ 30) h) = n14 k G (σ 1) (σ 2) (σ 3) (σ 6) (σ 29) (σ 30) h := (kregionD_eq (id := 10) (draw := true) (ops := o14) (gs := [(none, [0, 1, 2, 3, 4, 5, 6, 7, 8, 9, 10, 11, 12, 13, 14, 15, 16, 17, 18, 19, 20, 21, 22, 23])]) (bad := [(7, 11), (7, 13), (7, 16), (8, 11), (8, 13), (8, 16), (9, 11), (9, 13), (9, 16)]) (by kernel_rfl) (by kernel_rfl) (by kernel_rfl) (by kernel_rfl) (by kernel_rfl)).trans (g14_0_eq k G [] σ h)
noncomputable def c15 : Code := cL c13
@[simp] def n13 {R : Type} (k : Nat) (G : KT5 R) (v1 v2 v3 v29 v30 : GV) (h : Heap) : Option R := n14 k G v1 v2 v3 v30 v29 v30 h
theorem n13_eq0 {R : Type} (k : Nat) (G : KT5 R) (σ : GS) (h : Heap) : KC k 57 c15 σ h (fun x σ h => kx x (n14 k G (σ 1) (σ 2) (σ 3) (σ 6) (σ 29) (σ 30) h) (G x (σ 1) (σ 2) (σ 3) (σ 29) (σ 30) h)) = n13 k G (σ 1) (σ 2) (σ 3) (σ 29) (σ 30) h := by kernel_rfl
theorem n13_eq {R : Type} (k : Nat) (G : KT5 R) (σ : GS) (h : Heap) : KC k 57 c13 σ h (fun x σ h => G x (σ 1) (σ 2) (σ 3) (σ 29) (σ 30) h) = n13 k G (σ 1) (σ 2) (σ 3) (σ 29) (σ 30) h := (kseq (b := c14) rfl (fun σ h => n14_eq k G σ h)).trans (n13_eq0 k G σ h)
@[simp] def n12 {R : Type} (k : Nat) (G : KT5 R) (v1 v2 v3 v29 v30 : GV) (h : Heap) : Option R := n13 k (fun x v1 v2 v3 v29 v30 h => kb 3 x fun x => G x v1 v2 v3 v29 v30 h) v1 v2 v3 v29 v30 h
theorem n12_eq {R : Type} (k : Nat) (G : KT5 R) (σ : GS) (h : Heap) : KC k 57 c12 σ h (fun x σ h => G x (σ 1) (σ 2) (σ 3) (σ 29) (σ 30) h) = n12 k G (σ 1) (σ 2) (σ 3) (σ 29) (σ 30) h := (kblock_eq (a := c13) rfl).trans (n13_eq k (fun x v1 v2 v3 v29 v30 h => kb 3 x fun x => G x v1 v2 v3 v29 v30 h) σ h)
@[simp] def n10 {R : Type} (k : Nat) (G : KT5 R) (v1 v2 v3 v29 v30 : GV) (h : Heap) : Option R := n12 k (fun x v1 v2 v3 v29 v30 h => kx x (n11 k G v1 v2 v3 v29 v30 h) (G x v1 v2 v3 v29 v30 h)) v1 v2 v3 v29 v30 h
theorem n10_eq {R : Type} (k : Nat) (G : KT5 R) (σ : GS) (h : Heap) : KC k 57 c10 σ h (fun x σ h => G x (σ 1) (σ 2) (σ 3) (σ 29) (σ 30) h) = n10 k G (σ 1) (σ 2) (σ 3) (σ 29) (σ 30) h := (kseq (b := c11) rfl (fun σ h => n11_eq k G σ h)).trans (n12_eq k (fun x v1 v2 v3 v29 v30 h => kx x (n11 k G v1 v2 v3 v29 v30 h) (G x v1 v2 v3 v29 v30 h)) σ h)
noncomputable def c16 : Code := cL c9
@[simp] def n9 {R : Type} (k : Nat) (G : KT5 R) (v1 v2 v3 v29 v30 v31 : GV) (h : Heap) : Option R := kcond v31 (n10 k G v1 v2 v3 v29 v30 h) (G (.ext 2) v1 v2 v3 v29 v30 h)
theorem n9_eq0 {R : Type} (k : Nat) (G : KT5 R) (σ : GS) (h : Heap) : KC k 57 c16 σ h (fun x σ h => kx x (n10 k G (σ 1) (σ 2) (σ 3) (σ 29) (σ 30) h) (G x (σ 1) (σ 2) (σ 3) (σ 29) (σ 30) h)) = n9 k G (σ 1) (σ 2) (σ 3) (σ 29) (σ 30) (σ 31) h := by kernel_rfl
theorem n9_eq {R : Type} (k : Nat) (G : KT5 R) (σ : GS) (h : Heap) : KC k 57 c9 σ h (fun x σ h => G x (σ 1) (σ 2) (σ 3) (σ 29) (σ 30) h) = n9 k G (σ 1) (σ 2) (σ 3) (σ 29) (σ 30) (σ 31) h := (kseq (b := c10) rfl (fun σ h => n10_eq k G σ h)).trans (n9_eq0 k G σ h)
noncomputable def c17 : Code := cL c8
@[simp] def n8 {R : Type} (k : Nat) (G : KT5 R) (v1 v2 v3 v29 v30 : GV) (h : Heap) : Option R := (kbin .lss v30 v29).bind fun v31 => n9 k G v1 v2 v3 v29 v30 v31 h
theorem n8_eq0 {R : Type} (k : Nat) (G : KT5 R) (σ : GS) (h : Heap) : KC k 57 c17 σ h (fun x σ h => kx x (n9 k G (σ 1) (σ 2) (σ 3) (σ 29) (σ 30) (σ 31) h) (G x (σ 1) (σ 2) (σ 3) (σ 29) (σ 30) h)) = n8 k G (σ 1) (σ 2) (σ 3) (σ 29) (σ 30) h := by kernel_rfl
theorem n8_eq {R : Type} (k : Nat) (G : KT5 R) (σ : GS) (h : Heap) : KC k 57 c8 σ h (fun x σ h => G x (σ 1) (σ 2) (σ 3) (σ 29) (σ 30) h) = n8 k G (σ 1) (σ 2) (σ 3) (σ 29) (σ 30) h := (kseq (b := c9) rfl (fun σ h => n9_eq k G σ h)).trans (n8_eq0 k G σ h)
def l7 {R : Type} (k : Nat) (G : KT2 R) : Nat → GV → GV → GV → GV → GV → Heap → Option R
  | 0, _, _, _, _, _, _ => none
  | r + 1, v1, v2, v3, v29, v30, h => n8 k (fun x v1 v2 v3 v29 v30 h => kx x (l7 k G r v1 v2 v3 v29 v30 h) (G x v2 v3 h)) v1 v2 v3 v29 v30 h
theorem l7_eq {R : Type} (k : Nat) (G : KT2 R) : ∀ (r : Nat) (σ : GS) (h : Heap), kloop (fun σ h K => KC k 57 c8 σ h K) r σ h (fun x σ h => G x (σ 2) (σ 3) h) = l7 k G r (σ 1) (σ 2) (σ 3) (σ 29) (σ 30) h
  | 0, _, _ => rfl
  | r + 1, σ, h => (kloop_eq (fun σ h => l7_eq k G r σ h)).trans (n8_eq k (fun x v1 v2 v3 v29 v30 h => kx x (l7 k G r v1 v2 v3 v29 v30 h) (G x v2 v3 h)) σ h)
@[simp] def n7 {R : Type} (k : Nat) (G : KT2 R) (v1 v2 v3 v29 v30 : GV) (h : Heap) : Option R := l7 k G k v1 v2 v3 v29 v30 h
theorem n7_eq {R : Type} (k : Nat) (G : KT2 R) (σ : GS) (h : Heap) : KC k 57 c7 σ h (fun x σ h => G x (σ 2) (σ 3) h) = n7 k G (σ 1) (σ 2) (σ 3) (σ 29) (σ 30) h := (kloopc_eq (a := c8) rfl).trans (l7_eq k G k σ h)
@[simp] def n6 {R : Type} (k : Nat) (G : KT2 R) (v1 v2 v3 v29 v30 : GV) (h : Heap) : Option R := n7 k (fun x v2 v3 h => kb 2 x fun x => G x v2 v3 h) v1 v2 v3 v29 v30 h
theorem n6_eq {R : Type} (k : Nat) (G : KT2 R) (σ : GS) (h : Heap) : KC k 57 c6 σ h (fun x σ h => G x (σ 2) (σ 3) h) = n6 k G (σ 1) (σ 2) (σ 3) (σ 29) (σ 30) h := (kblock_eq (a := c7) rfl).trans (n7_eq k (fun x v2 v3 h => kb 2 x fun x => G x v2 v3 h) σ h)
noncomputable def c18 : Code := cL c5
@[simp] def n5 {R : Type} (k : Nat) (G : KT2 R) (v1 v2 v3 : GV) (h : Heap) : Option R := (kfa 1 v1).bind fun v27 => (kload1 h v27).bind fun v28 => (klen v28).bind fun v29 => n6 k G v1 v2 v3 v29 (.int .i64 0) h
theorem n5_eq0 {R : Type} (k : Nat) (G : KT2 R) (σ : GS) (h : Heap) : KC k 57 c18 σ h (fun x σ h => kx x (n6 k G (σ 1) (σ 2) (σ 3) (σ 29) (σ 30) h) (G x (σ 2) (σ 3) h)) = n5 k G (σ 1) (σ 2) (σ 3) h := by kernel_rfl
theorem n5_eq {R : Type} (k : Nat) (G : KT2 R) (σ : GS) (h : Heap) : KC k 57 c5 σ h (fun x σ h => G x (σ 2) (σ 3) h) = n5 k G (σ 1) (σ 2) (σ 3) h := (kseq (b := c6) rfl (fun σ h => n6_eq k G σ h)).trans (n5_eq0 k G σ h)
@[simp] def n3 {R : Type} (k : Nat) (G : KT1 R) (v1 v2 v3 : GV) (h : Heap) : Option R := n5 k (fun x v2 v3 h => kx x (n4 k G v2 v3 h) (G x v2 h)) v1 v2 v3 h
theorem n3_eq {R : Type} (k : Nat) (G : KT1 R) (σ : GS) (h : Heap) : KC k 57 c3 σ h (fun x σ h => G x (σ 2) h) = n3 k G (σ 1) (σ 2) (σ 3) h := (kseq (b := c4) rfl (fun σ h => n4_eq k G σ h)).trans (n5_eq k (fun x v2 v3 h => kx x (n4 k G v2 v3 h) (G x v2 h)) σ h)
noncomputable def c19 : Code := cL c2
noncomputable def c20 : Code := cR c19
noncomputable def c21 : Code := cL c20
noncomputable def c22 : Code := cL c21
noncomputable def c23 : Code := cR c22
noncomputable def c24 : Code := cR c23
noncomputable def c25 : Code := cR c24
@[simp] def n25 {R : Type} (k : Nat) (G : KT6 R) (v1 v2 v3 v9 v10 v11 : GV) (h : Heap) : Option R := (kbin .add v11 (.int .i64 1)).bind fun v26 => G .nrm v1 v2 v3 v9 v10 v26 h
theorem n25_eq {R : Type} (k : Nat) (G : KT6 R) (σ : GS) (h : Heap) : KC k 57 c25 σ h (fun x σ h => G x (σ 1) (σ 2) (σ 3) (σ 9) (σ 10) (σ 11) h) = n25 k G (σ 1) (σ 2) (σ 3) (σ 9) (σ 10) (σ 11) h := by kernel_rfl
noncomputable def c26 : Code := cL c24
noncomputable def c27 : Code := cL c26
noncomputable def c28 : Code := cR c27
noncomputable def o28 : Array Oper := cO c28
@[simp] def g28_0 {R : Type} (k : Nat) (G : KT6 R) (v1 v2 v3 v5 v9 v10 v11 : GV) (rs : List Rec) (h : Heap) : Option R := (kfa 0 v3).bind fun v15 => (kload1 h v15).bind fun v16 => (kfa 0 v5).bind fun v17 => (kload1 h v17).bind fun v18 => kold h fun h0 => (kF true HH fn.slices_Clone_string [v18] h).bind fun r => kr r fun v19 h => krs (rs ++ [⟨4, h0.length, h.length, ⟨[v18].flatMap (kborr h0), []⟩⟩]) fun rs => (kfa 1 v5).bind fun v20 => kold h fun h0 => (kload1 h v20).bind fun v21 => krs (rs ++ [⟨6, h0.length, h.length, ⟨kblk v20, []⟩⟩]) fun rs => (gfill (fun i => [(0, 1), (1, 1)][i]?) [.nils, (.int .i64 0)] [(0, v19), (1, v21)]).bind fun c => kagg c h fun v22 h => (gfill (fun i => some (i * 2, 2)) (zeros [.nils, (.int .i64 0)] 1) [(0, v22)]).bind fun c => kbs 1 2 c h fun v23 h => (kapp [.nils, (.int .i64 0)] 2 32 v16 v23 h).bind fun r => kr r fun v24 h => (kfa 0 v3).bind fun v25 => (kstore 1 h v25 v24).bind fun h => bif chk [(4, 6)] rs then G .nrm v1 v2 v3 v9 v10 v11 h else none
theorem g28_0_eq {R : Type} (k : Nat) (G : KT6 R) (rs : List Rec) (σ : GS) (h : Heap) : kgroupsD PP cfg NN HH 57 o28 [(4, 6)] [(none, [0, 1, 2, 3, 4, 5, 6, 7, 8, 9, 10, 11])] rs σ h (fun rs σ h => bif chk [(4, 6)] rs then G .nrm (σ 1) (σ 2) (σ 3) (σ 9) (σ 10) (σ 11) h else none) = g28_0 k G (σ 1) (σ 2) (σ 3) (σ 5) (σ 9) (σ 10) (σ 11) rs h := by kernel_rfl
@[simp] def n28 {R : Type} (k : Nat) (G : KT6 R) (v1 v2 v3 v5 v9 v10 v11 : GV) (h : Heap) : Option R := g28_0 k G v1 v2 v3 v5 v9 v10 v11 [] h
theorem n28_eq {R : Type} (k : Nat) (G : KT6 R) (σ : GS) (h : Heap) : KC k 57 c28 σ h (fun x σ h => G x (σ 1) (σ 2) (σ 3) (σ 9) (σ 10) (σ 11) h) = n28 k G (σ 1) (σ 2) (σ 3) (σ 5) (σ 9) (σ 10) (σ 11) h := (kregionD_eq (id := 5) (draw := true) (ops := o28) (gs := [(none, [0, 1, 2, 3, 4, 5, 6, 7, 8, 9, 10, 11])]) (bad := [(4, 6)]) (by kernel_rfl) (by kernel_rfl) (by kernel_rfl) (by kernel_rfl) (by kernel_rfl)).trans (g28_0_eq k G [] σ h)
noncomputable def c29 : Code := cL c27
@[simp] def n27 {R : Type} (k : Nat) (G : KT6 R) (v1 v2 v3 v9 v10 v11 : GV) (h : Heap) : Option R := (kia 2 v9 v11).bind fun v13 => (kloadA 2 h v13).bind fun v14 => kalloc [.nils, (.int .i64 0)] h fun v5 h => (kstore 2 h v5 v14).bind fun h => n28 k G v1 v2 v3 v5 v9 v10 v11 h
theorem n27_eq0 {R : Type} (k : Nat) (G : KT6 R) (σ : GS) (h : Heap) : KC k 57 c29 σ h (fun x σ h => kx x (n28 k G (σ 1) (σ 2) (σ 3) (σ 5) (σ 9) (σ 10) (σ 11) h) (G x (σ 1) (σ 2) (σ 3) (σ 9) (σ 10) (σ 11) h)) = n27 k G (σ 1) (σ 2) (σ 3) (σ 9) (σ 10) (σ 11) h := by kernel_rfl
theorem n27_eq {R : Type} (k : Nat) (G : KT6 R) (σ : GS) (h : Heap) : KC k 57 c27 σ h (fun x σ h => G x (σ 1) (σ 2) (σ 3) (σ 9) (σ 10) (σ 11) h) = n27 k G (σ 1) (σ 2) (σ 3) (σ 9) (σ 10) (σ 11) h := (kseq (b := c28) rfl (fun σ h => n28_eq k G σ h)).trans (n27_eq0 k G σ h)
@[simp] def n26 {R : Type} (k : Nat) (G : KT6 R) (v1 v2 v3 v9 v10 v11 : GV) (h : Heap) : Option R := n27 k (fun x v1 v2 v3 v9 v10 v11 h => kb 1 x fun x => G x v1 v2 v3 v9 v10 v11 h) v1 v2 v3 v9 v10 v11 h
theorem n26_eq {R : Type} (k : Nat) (G : KT6 R) (σ : GS) (h : Heap) : KC k 57 c26 σ h (fun x σ h => G x (σ 1) (σ 2) (σ 3) (σ 9) (σ 10) (σ 11) h) = n26 k G (σ 1) (σ 2) (σ 3) (σ 9) (σ 10) (σ 11) h := (kblock_eq (a := c27) rfl).trans (n27_eq k (fun x v1 v2 v3 v9 v10 v11 h => kb 1 x fun x => G x v1 v2 v3 v9 v10 v11 h) σ h)
@[simp] def n24 {R : Type} (k : Nat) (G : KT6 R) (v1 v2 v3 v9 v10 v11 : GV) (h : Heap) : Option R := n26 k (fun x v1 v2 v3 v9 v10 v11 h => kx x (n25 k G v1 v2 v3 v9 v10 v11 h) (G x v1 v2 v3 v9 v10 v11 h)) v1 v2 v3 v9 v10 v11 h
theorem n24_eq {R : Type} (k : Nat) (G : KT6 R) (σ : GS) (h : Heap) : KC k 57 c24 σ h (fun x σ h => G x (σ 1) (σ 2) (σ 3) (σ 9) (σ 10) (σ 11) h) = n24 k G (σ 1) (σ 2) (σ 3) (σ 9) (σ 10) (σ 11) h := (kseq (b := c25) rfl (fun σ h => n25_eq k G σ h)).trans (n26_eq k (fun x v1 v2 v3 v9 v10 v11 h => kx x (n25 k G v1 v2 v3 v9 v10 v11 h) (G x v1 v2 v3 v9 v10 v11 h)) σ h)
noncomputable def c30 : Code := cL c23
@[simp] def n23 {R : Type} (k : Nat) (G : KT6 R) (v1 v2 v3 v9 v10 v11 v12 : GV) (h : Heap) : Option R := kcond v12 (n24 k G v1 v2 v3 v9 v10 v11 h) (G (.ext 0) v1 v2 v3 v9 v10 v11 h)
theorem n23_eq0 {R : Type} (k : Nat) (G : KT6 R) (σ : GS) (h : Heap) : KC k 57 c30 σ h (fun x σ h => kx x (n24 k G (σ 1) (σ 2) (σ 3) (σ 9) (σ 10) (σ 11) h) (G x (σ 1) (σ 2) (σ 3) (σ 9) (σ 10) (σ 11) h)) = n23 k G (σ 1) (σ 2) (σ 3) (σ 9) (σ 10) (σ 11) (σ 12) h := by kernel_rfl
theorem n23_eq {R : Type} (k : Nat) (G : KT6 R) (σ : GS) (h : Heap) : KC k 57 c23 σ h (fun x σ h => G x (σ 1) (σ 2) (σ 3) (σ 9) (σ 10) (σ 11) h) = n23 k G (σ 1) (σ 2) (σ 3) (σ 9) (σ 10) (σ 11) (σ 12) h := (kseq (b := c24) rfl (fun σ h => n24_eq k G σ h)).trans (n23_eq0 k G σ h)
noncomputable def c31 : Code := cL c22
@[simp] def n22 {R : Type} (k : Nat) (G : KT6 R) (v1 v2 v3 v9 v10 v11 : GV) (h : Heap) : Option R := (kbin .lss v11 v10).bind fun v12 => n23 k G v1 v2 v3 v9 v10 v11 v12 h
theorem n22_eq0 {R : Type} (k : Nat) (G : KT6 R) (σ : GS) (h : Heap) : KC k 57 c31 σ h (fun x σ h => kx x (n23 k G (σ 1) (σ 2) (σ 3) (σ 9) (σ 10) (σ 11) (σ 12) h) (G x (σ 1) (σ 2) (σ 3) (σ 9) (σ 10) (σ 11) h)) = n22 k G (σ 1) (σ 2) (σ 3) (σ 9) (σ 10) (σ 11) h := by kernel_rfl
theorem n22_eq {R : Type} (k : Nat) (G : KT6 R) (σ : GS) (h : Heap) : KC k 57 c22 σ h (fun x σ h => G x (σ 1) (σ 2) (σ 3) (σ 9) (σ 10) (σ 11) h) = n22 k G (σ 1) (σ 2) (σ 3) (σ 9) (σ 10) (σ 11) h := (kseq (b := c23) rfl (fun σ h => n23_eq k G σ h)).trans (n22_eq0 k G σ h)
def l21 {R : Type} (k : Nat) (G : KT3 R) : Nat → GV → GV → GV → GV → GV → GV → Heap → Option R
  | 0, _, _, _, _, _, _, _ => none
  | r + 1, v1, v2, v3, v9, v10, v11, h => n22 k (fun x v1 v2 v3 v9 v10 v11 h => kx x (l21 k G r v1 v2 v3 v9 v10 v11 h) (G x v1 v2 v3 h)) v1 v2 v3 v9 v10 v11 h
theorem l21_eq {R : Type} (k : Nat) (G : KT3 R) : ∀ (r : Nat) (σ : GS) (h : Heap), kloop (fun σ h K => KC k 57 c22 σ h K) r σ h (fun x σ h => G x (σ 1) (σ 2) (σ 3) h) = l21 k G r (σ 1) (σ 2) (σ 3) (σ 9) (σ 10) (σ 11) h
  | 0, _, _ => rfl
  | r + 1, σ, h => (kloop_eq (fun σ h => l21_eq k G r σ h)).trans (n22_eq k (fun x v1 v2 v3 v9 v10 v11 h => kx x (l21 k G r v1 v2 v3 v9 v10 v11 h) (G x v1 v2 v3 h)) σ h)
@[simp] def n21 {R : Type} (k : Nat) (G : KT3 R) (v1 v2 v3 v9 v10 v11 : GV) (h : Heap) : Option R := l21 k G k v1 v2 v3 v9 v10 v11 h
theorem n21_eq {R : Type} (k : Nat) (G : KT3 R) (σ : GS) (h : Heap) : KC k 57 c21 σ h (fun x σ h => G x (σ 1) (σ 2) (σ 3) h) = n21 k G (σ 1) (σ 2) (σ 3) (σ 9) (σ 10) (σ 11) h := (kloopc_eq (a := c22) rfl).trans (l21_eq k G k σ h)
@[simp] def n20 {R : Type} (k : Nat) (G : KT3 R) (v1 v2 v3 v9 v10 v11 : GV) (h : Heap) : Option R := n21 k (fun x v1 v2 v3 h => kb 0 x fun x => G x v1 v2 v3 h) v1 v2 v3 v9 v10 v11 h
theorem n20_eq {R : Type} (k : Nat) (G : KT3 R) (σ : GS) (h : Heap) : KC k 57 c20 σ h (fun x σ h => G x (σ 1) (σ 2) (σ 3) h) = n20 k G (σ 1) (σ 2) (σ 3) (σ 9) (σ 10) (σ 11) h := (kblock_eq (a := c21) rfl).trans (n21_eq k (fun x v1 v2 v3 h => kb 0 x fun x => G x v1 v2 v3 h) σ h)
noncomputable def c32 : Code := cL c19
@[simp] def n19 {R : Type} (k : Nat) (G : KT3 R) (v1 v2 v3 : GV) (h : Heap) : Option R := (kfa 0 v1).bind fun v8 => (kload1 h v8).bind fun v9 => (klen v9).bind fun v10 => n20 k G v1 v2 v3 v9 v10 (.int .i64 0) h
theorem n19_eq0 {R : Type} (k : Nat) (G : KT3 R) (σ : GS) (h : Heap) : KC k 57 c32 σ h (fun x σ h => kx x (n20 k G (σ 1) (σ 2) (σ 3) (σ 9) (σ 10) (σ 11) h) (G x (σ 1) (σ 2) (σ 3) h)) = n19 k G (σ 1) (σ 2) (σ 3) h := by kernel_rfl
theorem n19_eq {R : Type} (k : Nat) (G : KT3 R) (σ : GS) (h : Heap) : KC k 57 c19 σ h (fun x σ h => G x (σ 1) (σ 2) (σ 3) h) = n19 k G (σ 1) (σ 2) (σ 3) h := (kseq (b := c20) rfl (fun σ h => n20_eq k G σ h)).trans (n19_eq0 k G σ h)
@[simp] def n2 {R : Type} (k : Nat) (G : KT1 R) (v1 v2 v3 : GV) (h : Heap) : Option R := n19 k (fun x v1 v2 v3 h => kx x (n3 k G v1 v2 v3 h) (G x v2 h)) v1 v2 v3 h
theorem n2_eq {R : Type} (k : Nat) (G : KT1 R) (σ : GS) (h : Heap) : KC k 57 c2 σ h (fun x σ h => G x (σ 2) h) = n2 k G (σ 1) (σ 2) (σ 3) h := (kseq (b := c3) rfl (fun σ h => n3_eq k G σ h)).trans (n19_eq k (fun x v1 v2 v3 h => kx x (n3 k G v1 v2 v3 h) (G x v2 h)) σ h)
noncomputable def c33 : Code := cL c1
@[simp] def n1 {R : Type} (k : Nat) (G : KT1 R) (v1 v2 : GV) (h : Heap) : Option R := (gfill (fun i => [(0, 1), (1, 1), (2, 1)][i]?) [.nils, .nils, .nils] []).bind fun c => kagg c h fun v7 h => kalloc [.nils, .nils, .nils] h fun v3 h => (kstore 3 h v3 v7).bind fun h => n2 k G v1 v2 v3 h
theorem n1_eq0 {R : Type} (k : Nat) (G : KT1 R) (σ : GS) (h : Heap) : KC k 57 c33 σ h (fun x σ h => kx x (n2 k G (σ 1) (σ 2) (σ 3) h) (G x (σ 2) h)) = n1 k G (σ 1) (σ 2) h := by kernel_rfl
theorem n1_eq {R : Type} (k : Nat) (G : KT1 R) (σ : GS) (h : Heap) : KC k 57 c1 σ h (fun x σ h => G x (σ 2) h) = n1 k G (σ 1) (σ 2) h := (kseq (b := c2) rfl (fun σ h => n2_eq k G σ h)).trans (n1_eq0 k G σ h)
noncomputable def c34 : Code := cL c0
@[simp] def n0 {R : Type} (k : Nat) (G : KT1 R) (v0 : GV) (h : Heap) : Option R := kbox v0 h fun v1 h => kalloc [.nils, .nils, .nils] h fun v2 h => n1 k G v1 v2 h
theorem n0_eq0 {R : Type} (k : Nat) (G : KT1 R) (σ : GS) (h : Heap) : KC k 57 c34 σ h (fun x σ h => kx x (n1 k G (σ 1) (σ 2) h) (G x (σ 2) h)) = n0 k G (σ 0) h := by kernel_rfl
theorem n0_eq {R : Type} (k : Nat) (G : KT1 R) (σ : GS) (h : Heap) : KC k 57 c0 σ h (fun x σ h => G x (σ 2) h) = n0 k G (σ 0) h := (kseq (b := c1) rfl (fun σ h => n1_eq k G σ h)).trans (n0_eq0 k G σ h)
def run {R : Type} (k : Nat) (a0 : GV) (h : Heap) (fin : GV → Heap → Option R) : Option R := n0 k (fun x v2 h => kend x ((kloadA 3 h v2).bind fun w2 => fin w2 h)) a0 h
theorem run_eq {R : Type} (k : Nat) (a0 : GV) (h : Heap) (fin : GV → Heap → Option R) : kfun PP cfg NN HH k fn.impl_Chain_copied [a0] h fin = run k a0 h fin := (kfun_eq (nt := 57) (c := c0) (show PP.funcs[fn.impl_Chain_copied]? = some Try.f121 by kernel_rfl) (by kernel_rfl) (by kernel_rfl) (fun x σ h => by cases x <;> kernel_rfl)).trans (n0_eq k (fun x v2 h => kend x ((kloadA 3 h v2).bind fun w2 => fin w2 h)) _ h)
theorem gives {k : Nat} {a0 : GV} {b : Nat} {q : GV × List (List GV)} (e : run k a0 [] (finO b) = some q) : OO fn.impl_Chain_copied [a0] b = some q := oω_of ((run_eq k a0 [] (finO b)).trans e)
end S.impl_Chain_copied
/-! slices_IndexFunc_impl_Server -/
namespace S.slices_IndexFunc_impl_Server
noncomputable def c0 : Code := bodyOf Try.f128
noncomputable def c1 : Code := cR c0
noncomputable def c2 : Code := cR c1
@[simp] def n2 {R : Type} (k : Nat) (G : KT1 R) (h : Heap) : Option R := G .ret (.int .i64 (-1)) h
theorem n2_eq {R : Type} (k : Nat) (G : KT1 R) (σ : GS) (h : Heap) : KC k 19 c2 σ h (fun x σ h => G x (σ 4) h) = n2 k G h := by kernel_rfl
noncomputable def c3 : Code := cL c1
noncomputable def c4 : Code := cR c3
noncomputable def c5 : Code := cL c4
noncomputable def c6 : Code := cL c5
noncomputable def c7 : Code := cR c6
noncomputable def c8 : Code := cR c7
noncomputable def c9 : Code := cR c8
@[simp] def n9 {R : Type} (k : Nat) (G : KT5 R) (v0 v1 v4 v7 v8 : GV) (h : Heap) : Option R := (kbin .add v8 (.int .i64 1)).bind fun v18 => G .nrm v0 v1 v4 v7 v18 h
theorem n9_eq {R : Type} (k : Nat) (G : KT5 R) (σ : GS) (h : Heap) : KC k 19 c9 σ h (fun x σ h => G x (σ 0) (σ 1) (σ 4) (σ 7) (σ 8) h) = n9 k G (σ 0) (σ 1) (σ 4) (σ 7) (σ 8) h := by kernel_rfl
noncomputable def c10 : Code := cL c8
noncomputable def c11 : Code := cL c10
@[simp] def n11 {R : Type} (k : Nat) (G : KT5 R) (v0 v1 v4 v7 v8 : GV) (h : Heap) : Option R := (kia 2 v0 v8).bind fun v14 => (kloadA 2 h v14).bind fun v15 => kval v1 [v15] h fun v16 h => kcond v16 (G .ret v0 v1 v8 v7 v8 h) (G .nrm v0 v1 v4 v7 v8 h)
theorem n11_eq {R : Type} (k : Nat) (G : KT5 R) (σ : GS) (h : Heap) : KC k 19 c11 σ h (fun x σ h => G x (σ 0) (σ 1) (σ 4) (σ 7) (σ 8) h) = n11 k G (σ 0) (σ 1) (σ 4) (σ 7) (σ 8) h := by kernel_rfl
@[simp] def n10 {R : Type} (k : Nat) (G : KT5 R) (v0 v1 v4 v7 v8 : GV) (h : Heap) : Option R := n11 k (fun x v0 v1 v4 v7 v8 h => kb 1 x fun x => G x v0 v1 v4 v7 v8 h) v0 v1 v4 v7 v8 h
theorem n10_eq {R : Type} (k : Nat) (G : KT5 R) (σ : GS) (h : Heap) : KC k 19 c10 σ h (fun x σ h => G x (σ 0) (σ 1) (σ 4) (σ 7) (σ 8) h) = n10 k G (σ 0) (σ 1) (σ 4) (σ 7) (σ 8) h := (kblock_eq (a := c11) rfl).trans (n11_eq k (fun x v0 v1 v4 v7 v8 h => kb 1 x fun x => G x v0 v1 v4 v7 v8 h) σ h)
@[simp] def n8 {R : Type} (k : Nat) (G : KT5 R) (v0 v1 v4 v7 v8 : GV) (h : Heap) : Option R := n10 k (fun x v0 v1 v4 v7 v8 h => kx x (n9 k G v0 v1 v4 v7 v8 h) (G x v0 v1 v4 v7 v8 h)) v0 v1 v4 v7 v8 h
theorem n8_eq {R : Type} (k : Nat) (G : KT5 R) (σ : GS) (h : Heap) : KC k 19 c8 σ h (fun x σ h => G x (σ 0) (σ 1) (σ 4) (σ 7) (σ 8) h) = n8 k G (σ 0) (σ 1) (σ 4) (σ 7) (σ 8) h := (kseq (b := c9) rfl (fun σ h => n9_eq k G σ h)).trans (n10_eq k (fun x v0 v1 v4 v7 v8 h => kx x (n9 k G v0 v1 v4 v7 v8 h) (G x v0 v1 v4 v7 v8 h)) σ h)
noncomputable def c12 : Code := cL c7
@[simp] def n7 {R : Type} (k : Nat) (G : KT5 R) (v0 v1 v4 v7 v8 v9 : GV) (h : Heap) : Option R := kcond v9 (n8 k G v0 v1 v4 v7 v8 h) (G (.ext 0) v0 v1 v4 v7 v8 h)
theorem n7_eq0 {R : Type} (k : Nat) (G : KT5 R) (σ : GS) (h : Heap) : KC k 19 c12 σ h (fun x σ h => kx x (n8 k G (σ 0) (σ 1) (σ 4) (σ 7) (σ 8) h) (G x (σ 0) (σ 1) (σ 4) (σ 7) (σ 8) h)) = n7 k G (σ 0) (σ 1) (σ 4) (σ 7) (σ 8) (σ 9) h := by kernel_rfl
theorem n7_eq {R : Type} (k : Nat) (G : KT5 R) (σ : GS) (h : Heap) : KC k 19 c7 σ h (fun x σ h => G x (σ 0) (σ 1) (σ 4) (σ 7) (σ 8) h) = n7 k G (σ 0) (σ 1) (σ 4) (σ 7) (σ 8) (σ 9) h := (kseq (b := c8) rfl (fun σ h => n8_eq k G σ h)).trans (n7_eq0 k G σ h)
noncomputable def c13 : Code := cL c6
@[simp] def n6 {R : Type} (k : Nat) (G : KT5 R) (v0 v1 v4 v7 v8 : GV) (h : Heap) : Option R := (kbin .lss v8 v7).bind fun v9 => n7 k G v0 v1 v4 v7 v8 v9 h
theorem n6_eq0 {R : Type} (k : Nat) (G : KT5 R) (σ : GS) (h : Heap) : KC k 19 c13 σ h (fun x σ h => kx x (n7 k G (σ 0) (σ 1) (σ 4) (σ 7) (σ 8) (σ 9) h) (G x (σ 0) (σ 1) (σ 4) (σ 7) (σ 8) h)) = n6 k G (σ 0) (σ 1) (σ 4) (σ 7) (σ 8) h := by kernel_rfl
theorem n6_eq {R : Type} (k : Nat) (G : KT5 R) (σ : GS) (h : Heap) : KC k 19 c6 σ h (fun x σ h => G x (σ 0) (σ 1) (σ 4) (σ 7) (σ 8) h) = n6 k G (σ 0) (σ 1) (σ 4) (σ 7) (σ 8) h := (kseq (b := c7) rfl (fun σ h => n7_eq k G σ h)).trans (n6_eq0 k G σ h)
def l5 {R : Type} (k : Nat) (G : KT1 R) : Nat → GV → GV → GV → GV → GV → Heap → Option R
  | 0, _, _, _, _, _, _ => none
  | r + 1, v0, v1, v4, v7, v8, h => n6 k (fun x v0 v1 v4 v7 v8 h => kx x (l5 k G r v0 v1 v4 v7 v8 h) (G x v4 h)) v0 v1 v4 v7 v8 h
theorem l5_eq {R : Type} (k : Nat) (G : KT1 R) : ∀ (r : Nat) (σ : GS) (h : Heap), kloop (fun σ h K => KC k 19 c6 σ h K) r σ h (fun x σ h => G x (σ 4) h) = l5 k G r (σ 0) (σ 1) (σ 4) (σ 7) (σ 8) h
  | 0, _, _ => rfl
  | r + 1, σ, h => (kloop_eq (fun σ h => l5_eq k G r σ h)).trans (n6_eq k (fun x v0 v1 v4 v7 v8 h => kx x (l5 k G r v0 v1 v4 v7 v8 h) (G x v4 h)) σ h)
@[simp] def n5 {R : Type} (k : Nat) (G : KT1 R) (v0 v1 v4 v7 v8 : GV) (h : Heap) : Option R := l5 k G k v0 v1 v4 v7 v8 h
theorem n5_eq {R : Type} (k : Nat) (G : KT1 R) (σ : GS) (h : Heap) : KC k 19 c5 σ h (fun x σ h => G x (σ 4) h) = n5 k G (σ 0) (σ 1) (σ 4) (σ 7) (σ 8) h := (kloopc_eq (a := c6) rfl).trans (l5_eq k G k σ h)
@[simp] def n4 {R : Type} (k : Nat) (G : KT1 R) (v0 v1 v4 v7 v8 : GV) (h : Heap) : Option R := n5 k (fun x v4 h => kb 0 x fun x => G x v4 h) v0 v1 v4 v7 v8 h
theorem n4_eq {R : Type} (k : Nat) (G : KT1 R) (σ : GS) (h : Heap) : KC k 19 c4 σ h (fun x σ h => G x (σ 4) h) = n4 k G (σ 0) (σ 1) (σ 4) (σ 7) (σ 8) h := (kblock_eq (a := c5) rfl).trans (n5_eq k (fun x v4 h => kb 0 x fun x => G x v4 h) σ h)
noncomputable def c14 : Code := cL c3
@[simp] def n3 {R : Type} (k : Nat) (G : KT1 R) (v0 v1 v4 : GV) (h : Heap) : Option R := (klen v0).bind fun v7 => n4 k G v0 v1 v4 v7 (.int .i64 0) h
theorem n3_eq0 {R : Type} (k : Nat) (G : KT1 R) (σ : GS) (h : Heap) : KC k 19 c14 σ h (fun x σ h => kx x (n4 k G (σ 0) (σ 1) (σ 4) (σ 7) (σ 8) h) (G x (σ 4) h)) = n3 k G (σ 0) (σ 1) (σ 4) h := by kernel_rfl
theorem n3_eq {R : Type} (k : Nat) (G : KT1 R) (σ : GS) (h : Heap) : KC k 19 c3 σ h (fun x σ h => G x (σ 4) h) = n3 k G (σ 0) (σ 1) (σ 4) h := (kseq (b := c4) rfl (fun σ h => n4_eq k G σ h)).trans (n3_eq0 k G σ h)
@[simp] def n1 {R : Type} (k : Nat) (G : KT1 R) (v0 v1 v4 : GV) (h : Heap) : Option R := n3 k (fun x v4 h => kx x (n2 k G h) (G x v4 h)) v0 v1 v4 h
theorem n1_eq {R : Type} (k : Nat) (G : KT1 R) (σ : GS) (h : Heap) : KC k 19 c1 σ h (fun x σ h => G x (σ 4) h) = n1 k G (σ 0) (σ 1) (σ 4) h := (kseq (b := c2) rfl (fun σ h => n2_eq k G σ h)).trans (n3_eq k (fun x v4 h => kx x (n2 k G h) (G x v4 h)) σ h)
noncomputable def c15 : Code := cL c0
@[simp] def n0 {R : Type} (k : Nat) (G : KT1 R) (v0 v1 : GV) (h : Heap) : Option R := n1 k G v0 v1 (.int .i64 0) h
theorem n0_eq0 {R : Type} (k : Nat) (G : KT1 R) (σ : GS) (h : Heap) : KC k 19 c15 σ h (fun x σ h => kx x (n1 k G (σ 0) (σ 1) (σ 4) h) (G x (σ 4) h)) = n0 k G (σ 0) (σ 1) h := by kernel_rfl
theorem n0_eq {R : Type} (k : Nat) (G : KT1 R) (σ : GS) (h : Heap) : KC k 19 c0 σ h (fun x σ h => G x (σ 4) h) = n0 k G (σ 0) (σ 1) h := (kseq (b := c1) rfl (fun σ h => n1_eq k G σ h)).trans (n0_eq0 k G σ h)
def run {R : Type} (k : Nat) (a0 : GV) (a1 : GV) (h : Heap) (fin : GV → Heap → Option R) : Option R := n0 k (fun x v4 h => kend x (fin v4 h)) a0 a1 h
theorem run_eq {R : Type} (k : Nat) (a0 : GV) (a1 : GV) (h : Heap) (fin : GV → Heap → Option R) : kfun PP cfg NN HH k fn.slices_IndexFunc_impl_Server [a0, a1] h fin = run k a0 a1 h fin := (kfun_eq (nt := 19) (c := c0) (show PP.funcs[fn.slices_IndexFunc_impl_Server]? = some Try.f128 by kernel_rfl) (by kernel_rfl) (by kernel_rfl) (fun x σ h => by cases x <;> kernel_rfl)).trans (n0_eq k (fun x v4 h => kend x (fin v4 h)) _ h)
theorem gives {k : Nat} {a0 : GV} {a1 : GV} {v : GV} (e : run k a0 a1 [] finN = some v) : NN fn.slices_IndexFunc_impl_Server [a0, a1] = some v := nω_of (by kernel_rfl) ((run_eq k a0 a1 [] finN).trans e)
end S.slices_IndexFunc_impl_Server
/-! slices_ContainsFunc_string -/
namespace S.slices_ContainsFunc_string
noncomputable def c0 : Code := bodyOf Try.f129
@[simp] def n0 {R : Type} (k : Nat) (G : KT1 R) (v0 v1 : GV) (h : Heap) : Option R := (kN NN fn.slices_IndexFunc_string [v0, v1] h).bind fun v7 => (kbin .geq v7 (.int .i64 0)).bind fun v8 => G .ret v8 h
theorem n0_eq {R : Type} (k : Nat) (G : KT1 R) (σ : GS) (h : Heap) : KC k 9 c0 σ h (fun x σ h => G x (σ 4) h) = n0 k G (σ 0) (σ 1) h := by kernel_rfl
def run {R : Type} (k : Nat) (a0 : GV) (a1 : GV) (h : Heap) (fin : GV → Heap → Option R) : Option R := n0 k (fun x v4 h => kend x (fin v4 h)) a0 a1 h
theorem run_eq {R : Type} (k : Nat) (a0 : GV) (a1 : GV) (h : Heap) (fin : GV → Heap → Option R) : kfun PP cfg NN HH k fn.slices_ContainsFunc_string [a0, a1] h fin = run k a0 a1 h fin := (kfun_eq (nt := 9) (c := c0) (show PP.funcs[fn.slices_ContainsFunc_string]? = some Try.f129 by kernel_rfl) (by kernel_rfl) (by kernel_rfl) (fun x σ h => by cases x <;> kernel_rfl)).trans (n0_eq k (fun x v4 h => kend x (fin v4 h)) _ h)
theorem gives {k : Nat} {a0 : GV} {a1 : GV} {v : GV} (e : run k a0 a1 [] finN = some v) : NN fn.slices_ContainsFunc_string [a0, a1] = some v := nω_of (by kernel_rfl) ((run_eq k a0 a1 [] finN).trans e)
end S.slices_ContainsFunc_string
/-! impl_isServer_1 -/
namespace S.impl_isServer_1
noncomputable def c0 : Code := bodyOf Try.f130
@[simp] def n0 {R : Type} (k : Nat) (G : KT1 R) (v0 : GV) (h : Heap) : Option R := (klenS v0).bind fun v4 => (kbin .gtr v4 (.int .i64 200)).bind fun v5 => G .ret v5 h
theorem n0_eq {R : Type} (k : Nat) (G : KT1 R) (σ : GS) (h : Heap) : KC k 6 c0 σ h (fun x σ h => G x (σ 2) h) = n0 k G (σ 0) h := by kernel_rfl
def run {R : Type} (k : Nat) (a0 : GV) (h : Heap) (fin : GV → Heap → Option R) : Option R := n0 k (fun x v2 h => kend x (fin v2 h)) a0 h
theorem run_eq {R : Type} (k : Nat) (a0 : GV) (h : Heap) (fin : GV → Heap → Option R) : kfun PP cfg NN HH k fn.impl_isServer_1 [a0] h fin = run k a0 h fin := (kfun_eq (nt := 6) (c := c0) (show PP.funcs[fn.impl_isServer_1]? = some Try.f130 by kernel_rfl) (by kernel_rfl) (by kernel_rfl) (fun x σ h => by cases x <;> kernel_rfl)).trans (n0_eq k (fun x v2 h => kend x (fin v2 h)) _ h)
theorem gives {k : Nat} {a0 : GV} {v : GV} (e : run k a0 [] finN = some v) : NN fn.impl_isServer_1 [a0] = some v := nω_of (by kernel_rfl) ((run_eq k a0 [] finN).trans e)
end S.impl_isServer_1
/-! slices_Grow_string -/
namespace S.slices_Grow_string
noncomputable def c0 : Code := bodyOf Try.f131
noncomputable def c1 : Code := cR c0
noncomputable def c2 : Code := cR c1
noncomputable def c3 : Code := cR c2
@[simp] def n3 {R : Type} (k : Nat) (G : KT1 R) (v0 : GV) (h : Heap) : Option R := G .ret v0 h
theorem n3_eq {R : Type} (k : Nat) (G : KT1 R) (σ : GS) (h : Heap) : KC k 27 c3 σ h (fun x σ h => G x (σ 4) h) = n3 k G (σ 0) h := by kernel_rfl
noncomputable def c4 : Code := cL c2
@[simp] def n2 {R : Type} (k : Nat) (G : KT1 R) (v0 v1 v4 : GV) (h : Heap) : Option R := (kcap v0).bind fun v10 => (klen v0).bind fun v12 => (kbin .sub v10 v12).bind fun v13 => (kbin .sub v1 v13).bind fun v14 => (kbin .gtr v14 (.int .i64 0)).bind fun v16 => kcond v16 ((kcap v0).bind fun v19 => (ksl 1 v0 none (some v19) none).bind fun v20 => (kapz [(.str { data := #[] })] 1 16 v20 v14 h).bind fun r => kr r fun v22 h => (klen v0).bind fun v24 => (ksl 1 v22 none (some v24) none).bind fun v25 => n3 k G v25 h) (n3 k G v0 h)
theorem n2_eq0 {R : Type} (k : Nat) (G : KT1 R) (σ : GS) (h : Heap) : KC k 27 c4 σ h (fun x σ h => kx x (n3 k G (σ 0) h) (G x (σ 4) h)) = n2 k G (σ 0) (σ 1) (σ 4) h := by kernel_rfl
theorem n2_eq {R : Type} (k : Nat) (G : KT1 R) (σ : GS) (h : Heap) : KC k 27 c2 σ h (fun x σ h => G x (σ 4) h) = n2 k G (σ 0) (σ 1) (σ 4) h := (kseq (b := c3) rfl (fun σ h => n3_eq k G σ h)).trans (n2_eq0 k G σ h)
noncomputable def c5 : Code := cL c1
@[simp] def n1 {R : Type} (k : Nat) (G : KT1 R) (v0 v1 v4 : GV) (h : Heap) : Option R := (kbin .lss v1 (.int .i64 0)).bind fun v6 => kcond v6 (none) (n2 k G v0 v1 v4 h)
theorem n1_eq0 {R : Type} (k : Nat) (G : KT1 R) (σ : GS) (h : Heap) : KC k 27 c5 σ h (fun x σ h => kx x (n2 k G (σ 0) (σ 1) (σ 4) h) (G x (σ 4) h)) = n1 k G (σ 0) (σ 1) (σ 4) h := by kernel_rfl
theorem n1_eq {R : Type} (k : Nat) (G : KT1 R) (σ : GS) (h : Heap) : KC k 27 c1 σ h (fun x σ h => G x (σ 4) h) = n1 k G (σ 0) (σ 1) (σ 4) h := (kseq (b := c2) rfl (fun σ h => n2_eq k G σ h)).trans (n1_eq0 k G σ h)
noncomputable def c6 : Code := cL c0
@[simp] def n0 {R : Type} (k : Nat) (G : KT1 R) (v0 v1 : GV) (h : Heap) : Option R := n1 k G v0 v1 .nils h
theorem n0_eq0 {R : Type} (k : Nat) (G : KT1 R) (σ : GS) (h : Heap) : KC k 27 c6 σ h (fun x σ h => kx x (n1 k G (σ 0) (σ 1) (σ 4) h) (G x (σ 4) h)) = n0 k G (σ 0) (σ 1) h := by kernel_rfl
theorem n0_eq {R : Type} (k : Nat) (G : KT1 R) (σ : GS) (h : Heap) : KC k 27 c0 σ h (fun x σ h => G x (σ 4) h) = n0 k G (σ 0) (σ 1) h := (kseq (b := c1) rfl (fun σ h => n1_eq k G σ h)).trans (n0_eq0 k G σ h)
def run {R : Type} (k : Nat) (a0 : GV) (a1 : GV) (h : Heap) (fin : GV → Heap → Option R) : Option R := n0 k (fun x v4 h => kend x (fin v4 h)) a0 a1 h
theorem run_eq {R : Type} (k : Nat) (a0 : GV) (a1 : GV) (h : Heap) (fin : GV → Heap → Option R) : kfun PP cfg NN HH k fn.slices_Grow_string [a0, a1] h fin = run k a0 a1 h fin := (kfun_eq (nt := 27) (c := c0) (show PP.funcs[fn.slices_Grow_string]? = some Try.f131 by kernel_rfl) (by kernel_rfl) (by kernel_rfl) (fun x σ h => by cases x <;> kernel_rfl)).trans (n0_eq k (fun x v4 h => kend x (fin v4 h)) _ h)
theorem gives {k : Nat} {a0 : GV} {a1 : GV} {h : Heap} {r : GV × Heap} (e : run k a0 a1 h finH = some r) : HH fn.slices_Grow_string [a0, a1] h = some r := kω_of ((run_eq k a0 a1 h finH).trans e)
end S.slices_Grow_string
/-! slices_IsSorted_int64 -/
namespace S.slices_IsSorted_int64
noncomputable def c0 : Code := bodyOf Try.f132
noncomputable def c1 : Code := cR c0
noncomputable def c2 : Code := cR c1
@[simp] def n2 {R : Type} (k : Nat) (G : KT1 R) (h : Heap) : Option R := G .ret (.bool true) h
theorem n2_eq {R : Type} (k : Nat) (G : KT1 R) (σ : GS) (h : Heap) : KC k 21 c2 σ h (fun x σ h => G x (σ 2) h) = n2 k G h := by kernel_rfl
noncomputable def c3 : Code := cL c1
noncomputable def c4 : Code := cR c3
noncomputable def c5 : Code := cL c4
noncomputable def c6 : Code := cL c5
noncomputable def c7 : Code := cR c6
noncomputable def c8 : Code := cR c7
@[simp] def n8 {R : Type} (k : Nat) (G : KT3 R) (v0 v2 v3 : GV) (h : Heap) : Option R := (kbin .sub v3 (.int .i64 1)).bind fun v10 => G .nrm v0 v2 v10 h
theorem n8_eq {R : Type} (k : Nat) (G : KT3 R) (σ : GS) (h : Heap) : KC k 21 c8 σ h (fun x σ h => G x (σ 0) (σ 2) (σ 3) h) = n8 k G (σ 0) (σ 2) (σ 3) h := by kernel_rfl
noncomputable def c9 : Code := cL c7
noncomputable def c10 : Code := cL c9
@[simp] def n10 {R : Type} (k : Nat) (G : KT3 R) (v0 v2 v3 : GV) (h : Heap) : Option R := (kia 1 v0 v3).bind fun v13 => (kload1 h v13).bind fun v14 => (kbin .sub v3 (.int .i64 1)).bind fun v17 => (kia 1 v0 v17).bind fun v18 => (kload1 h v18).bind fun v19 => (kN NN fn.cmp_Less_int64 [v14, v19] h).bind fun v20 => kcond v20 (G .ret v0 (.bool false) v3 h) (G .nrm v0 v2 v3 h)
theorem n10_eq {R : Type} (k : Nat) (G : KT3 R) (σ : GS) (h : Heap) : KC k 21 c10 σ h (fun x σ h => G x (σ 0) (σ 2) (σ 3) h) = n10 k G (σ 0) (σ 2) (σ 3) h := by kernel_rfl
@[simp] def n9 {R : Type} (k : Nat) (G : KT3 R) (v0 v2 v3 : GV) (h : Heap) : Option R := n10 k (fun x v0 v2 v3 h => kb 1 x fun x => G x v0 v2 v3 h) v0 v2 v3 h
theorem n9_eq {R : Type} (k : Nat) (G : KT3 R) (σ : GS) (h : Heap) : KC k 21 c9 σ h (fun x σ h => G x (σ 0) (σ 2) (σ 3) h) = n9 k G (σ 0) (σ 2) (σ 3) h := (kblock_eq (a := c10) rfl).trans (n10_eq k (fun x v0 v2 v3 h => kb 1 x fun x => G x v0 v2 v3 h) σ h)
@[simp] def n7 {R : Type} (k : Nat) (G : KT3 R) (v0 v2 v3 : GV) (h : Heap) : Option R := n9 k (fun x v0 v2 v3 h => kx x (n8 k G v0 v2 v3 h) (G x v0 v2 v3 h)) v0 v2 v3 h
theorem n7_eq {R : Type} (k : Nat) (G : KT3 R) (σ : GS) (h : Heap) : KC k 21 c7 σ h (fun x σ h => G x (σ 0) (σ 2) (σ 3) h) = n7 k G (σ 0) (σ 2) (σ 3) h := (kseq (b := c8) rfl (fun σ h => n8_eq k G σ h)).trans (n9_eq k (fun x v0 v2 v3 h => kx x (n8 k G v0 v2 v3 h) (G x v0 v2 v3 h)) σ h)
noncomputable def c11 : Code := cL c6
@[simp] def n6 {R : Type} (k : Nat) (G : KT3 R) (v0 v2 v3 : GV) (h : Heap) : Option R := (kbin .gtr v3 (.int .i64 0)).bind fun v8 => kcond v8 (n7 k G v0 v2 v3 h) (G (.ext 0) v0 v2 v3 h)
theorem n6_eq0 {R : Type} (k : Nat) (G : KT3 R) (σ : GS) (h : Heap) : KC k 21 c11 σ h (fun x σ h => kx x (n7 k G (σ 0) (σ 2) (σ 3) h) (G x (σ 0) (σ 2) (σ 3) h)) = n6 k G (σ 0) (σ 2) (σ 3) h := by kernel_rfl
theorem n6_eq {R : Type} (k : Nat) (G : KT3 R) (σ : GS) (h : Heap) : KC k 21 c6 σ h (fun x σ h => G x (σ 0) (σ 2) (σ 3) h) = n6 k G (σ 0) (σ 2) (σ 3) h := (kseq (b := c7) rfl (fun σ h => n7_eq k G σ h)).trans (n6_eq0 k G σ h)
def l5 {R : Type} (k : Nat) (G : KT1 R) : Nat → GV → GV → GV → Heap → Option R
  | 0, _, _, _, _ => none
  | r + 1, v0, v2, v3, h => n6 k (fun x v0 v2 v3 h => kx x (l5 k G r v0 v2 v3 h) (G x v2 h)) v0 v2 v3 h
theorem l5_eq {R : Type} (k : Nat) (G : KT1 R) : ∀ (r : Nat) (σ : GS) (h : Heap), kloop (fun σ h K => KC k 21 c6 σ h K) r σ h (fun x σ h => G x (σ 2) h) = l5 k G r (σ 0) (σ 2) (σ 3) h
  | 0, _, _ => rfl
  | r + 1, σ, h => (kloop_eq (fun σ h => l5_eq k G r σ h)).trans (n6_eq k (fun x v0 v2 v3 h => kx x (l5 k G r v0 v2 v3 h) (G x v2 h)) σ h)
@[simp] def n5 {R : Type} (k : Nat) (G : KT1 R) (v0 v2 v3 : GV) (h : Heap) : Option R := l5 k G k v0 v2 v3 h
theorem n5_eq {R : Type} (k : Nat) (G : KT1 R) (σ : GS) (h : Heap) : KC k 21 c5 σ h (fun x σ h => G x (σ 2) h) = n5 k G (σ 0) (σ 2) (σ 3) h := (kloopc_eq (a := c6) rfl).trans (l5_eq k G k σ h)
@[simp] def n4 {R : Type} (k : Nat) (G : KT1 R) (v0 v2 v3 : GV) (h : Heap) : Option R := n5 k (fun x v2 h => kb 0 x fun x => G x v2 h) v0 v2 v3 h
theorem n4_eq {R : Type} (k : Nat) (G : KT1 R) (σ : GS) (h : Heap) : KC k 21 c4 σ h (fun x σ h => G x (σ 2) h) = n4 k G (σ 0) (σ 2) (σ 3) h := (kblock_eq (a := c5) rfl).trans (n5_eq k (fun x v2 h => kb 0 x fun x => G x v2 h) σ h)
noncomputable def c12 : Code := cL c3
@[simp] def n3 {R : Type} (k : Nat) (G : KT1 R) (v0 v2 : GV) (h : Heap) : Option R := (klen v0).bind fun v5 => (kbin .sub v5 (.int .i64 1)).bind fun v6 => n4 k G v0 v2 v6 h
theorem n3_eq0 {R : Type} (k : Nat) (G : KT1 R) (σ : GS) (h : Heap) : KC k 21 c12 σ h (fun x σ h => kx x (n4 k G (σ 0) (σ 2) (σ 3) h) (G x (σ 2) h)) = n3 k G (σ 0) (σ 2) h := by kernel_rfl
theorem n3_eq {R : Type} (k : Nat) (G : KT1 R) (σ : GS) (h : Heap) : KC k 21 c3 σ h (fun x σ h => G x (σ 2) h) = n3 k G (σ 0) (σ 2) h := (kseq (b := c4) rfl (fun σ h => n4_eq k G σ h)).trans (n3_eq0 k G σ h)
@[simp] def n1 {R : Type} (k : Nat) (G : KT1 R) (v0 v2 : GV) (h : Heap) : Option R := n3 k (fun x v2 h => kx x (n2 k G h) (G x v2 h)) v0 v2 h
theorem n1_eq {R : Type} (k : Nat) (G : KT1 R) (σ : GS) (h : Heap) : KC k 21 c1 σ h (fun x σ h => G x (σ 2) h) = n1 k G (σ 0) (σ 2) h := (kseq (b := c2) rfl (fun σ h => n2_eq k G σ h)).trans (n3_eq k (fun x v2 h => kx x (n2 k G h) (G x v2 h)) σ h)
noncomputable def c13 : Code := cL c0
@[simp] def n0 {R : Type} (k : Nat) (G : KT1 R) (v0 : GV) (h : Heap) : Option R := n1 k G v0 (.bool false) h
theorem n0_eq0 {R : Type} (k : Nat) (G : KT1 R) (σ : GS) (h : Heap) : KC k 21 c13 σ h (fun x σ h => kx x (n1 k G (σ 0) (σ 2) h) (G x (σ 2) h)) = n0 k G (σ 0) h := by kernel_rfl
theorem n0_eq {R : Type} (k : Nat) (G : KT1 R) (σ : GS) (h : Heap) : KC k 21 c0 σ h (fun x σ h => G x (σ 2) h) = n0 k G (σ 0) h := (kseq (b := c1) rfl (fun σ h => n1_eq k G σ h)).trans (n0_eq0 k G σ h)
def run {R : Type} (k : Nat) (a0 : GV) (h : Heap) (fin : GV → Heap → Option R) : Option R := n0 k (fun x v2 h => kend x (fin v2 h)) a0 h
theorem run_eq {R : Type} (k : Nat) (a0 : GV) (h : Heap) (fin : GV → Heap → Option R) : kfun PP cfg NN HH k fn.slices_IsSorted_int64 [a0] h fin = run k a0 h fin := (kfun_eq (nt := 21) (c := c0) (show PP.funcs[fn.slices_IsSorted_int64]? = some Try.f132 by kernel_rfl) (by kernel_rfl) (by kernel_rfl) (fun x σ h => by cases x <;> kernel_rfl)).trans (n0_eq k (fun x v2 h => kend x (fin v2 h)) _ h)
theorem gives {k : Nat} {a0 : GV} {v : GV} (e : run k a0 [] finN = some v) : NN fn.slices_IsSorted_int64 [a0] = some v := nω_of (by kernel_rfl) ((run_eq k a0 [] finN).trans e)
end S.slices_IsSorted_int64
/-! slices_ContainsFunc_int64 -/
namespace S.slices_ContainsFunc_int64
noncomputable def c0 : Code := bodyOf Try.f133
@[simp] def n0 {R : Type} (k : Nat) (G : KT1 R) (v0 v1 : GV) (h : Heap) : Option R := (kN NN fn.slices_IndexFunc_int64 [v0, v1] h).bind fun v7 => (kbin .geq v7 (.int .i64 0)).bind fun v8 => G .ret v8 h
theorem n0_eq {R : Type} (k : Nat) (G : KT1 R) (σ : GS) (h : Heap) : KC k 9 c0 σ h (fun x σ h => G x (σ 4) h) = n0 k G (σ 0) (σ 1) h := by kernel_rfl
def run {R : Type} (k : Nat) (a0 : GV) (a1 : GV) (h : Heap) (fin : GV → Heap → Option R) : Option R := n0 k (fun x v4 h => kend x (fin v4 h)) a0 a1 h
theorem run_eq {R : Type} (k : Nat) (a0 : GV) (a1 : GV) (h : Heap) (fin : GV → Heap → Option R) : kfun PP cfg NN HH k fn.slices_ContainsFunc_int64 [a0, a1] h fin = run k a0 a1 h fin := (kfun_eq (nt := 9) (c := c0) (show PP.funcs[fn.slices_ContainsFunc_int64]? = some Try.f133 by kernel_rfl) (by kernel_rfl) (by kernel_rfl) (fun x σ h => by cases x <;> kernel_rfl)).trans (n0_eq k (fun x v4 h => kend x (fin v4 h)) _ h)
theorem gives {k : Nat} {a0 : GV} {a1 : GV} {v : GV} (e : run k a0 a1 [] finN = some v) : NN fn.slices_ContainsFunc_int64 [a0, a1] = some v := nω_of (by kernel_rfl) ((run_eq k a0 a1 [] finN).trans e)
end S.slices_ContainsFunc_int64
/-! impl_areUp_1 -/
namespace S.impl_areUp_1
noncomputable def c0 : Code := bodyOf Try.f134
@[simp] def n0 {R : Type} (k : Nat) (G : KT1 R) (v0 v1 v2 : GV) (h : Heap) : Option R := (kload1 h v1).bind fun v6 => (kload1 h v2).bind fun v7 => (kN NN fn.impl_in [v0, v6, v7] h).bind fun v8 => (kun .not v8).bind fun v9 => G .ret v9 h
theorem n0_eq {R : Type} (k : Nat) (G : KT1 R) (σ : GS) (h : Heap) : KC k 10 c0 σ h (fun x σ h => G x (σ 4) h) = n0 k G (σ 0) (σ 1) (σ 2) h := by kernel_rfl
def run {R : Type} (k : Nat) (a0 : GV) (a1 : GV) (a2 : GV) (h : Heap) (fin : GV → Heap → Option R) : Option R := n0 k (fun x v4 h => kend x (fin v4 h)) a0 a1 a2 h
theorem run_eq {R : Type} (k : Nat) (a0 : GV) (a1 : GV) (a2 : GV) (h : Heap) (fin : GV → Heap → Option R) : kfun PP cfg NN HH k fn.impl_areUp_1 [a0, a1, a2] h fin = run k a0 a1 a2 h fin := (kfun_eq (nt := 10) (c := c0) (show PP.funcs[fn.impl_areUp_1]? = some Try.f134 by kernel_rfl) (by kernel_rfl) (by kernel_rfl) (fun x σ h => by cases x <;> kernel_rfl)).trans (n0_eq k (fun x v4 h => kend x (fin v4 h)) _ h)
theorem gives {k : Nat} {a0 : GV} {a1 : GV} {a2 : GV} {v : GV} (e : run k a0 a1 a2 [] finN = some v) : NN fn.impl_areUp_1 [a0, a1, a2] = some v := nω_of (by kernel_rfl) ((run_eq k a0 a1 a2 [] finN).trans e)
end S.impl_areUp_1
/-! slices_IndexFunc_int64 -/
namespace S.slices_IndexFunc_int64
noncomputable def c0 : Code := bodyOf Try.f140
noncomputable def c1 : Code := cR c0
noncomputable def c2 : Code := cR c1
@[simp] def n2 {R : Type} (k : Nat) (G : KT1 R) (h : Heap) : Option R := G .ret (.int .i64 (-1)) h
theorem n2_eq {R : Type} (k : Nat) (G : KT1 R) (σ : GS) (h : Heap) : KC k 19 c2 σ h (fun x σ h => G x (σ 4) h) = n2 k G h := by kernel_rfl
noncomputable def c3 : Code := cL c1
noncomputable def c4 : Code := cR c3
noncomputable def c5 : Code := cL c4
noncomputable def c6 : Code := cL c5
noncomputable def c7 : Code := cR c6
noncomputable def c8 : Code := cR c7
noncomputable def c9 : Code := cR c8
@[simp] def n9 {R : Type} (k : Nat) (G : KT5 R) (v0 v1 v4 v7 v8 : GV) (h : Heap) : Option R := (kbin .add v8 (.int .i64 1)).bind fun v18 => G .nrm v0 v1 v4 v7 v18 h
theorem n9_eq {R : Type} (k : Nat) (G : KT5 R) (σ : GS) (h : Heap) : KC k 19 c9 σ h (fun x σ h => G x (σ 0) (σ 1) (σ 4) (σ 7) (σ 8) h) = n9 k G (σ 0) (σ 1) (σ 4) (σ 7) (σ 8) h := by kernel_rfl
noncomputable def c10 : Code := cL c8
noncomputable def c11 : Code := cL c10
@[simp] def n11 {R : Type} (k : Nat) (G : KT5 R) (v0 v1 v4 v7 v8 : GV) (h : Heap) : Option R := (kia 1 v0 v8).bind fun v14 => (kload1 h v14).bind fun v15 => kval v1 [v15] h fun v16 h => kcond v16 (G .ret v0 v1 v8 v7 v8 h) (G .nrm v0 v1 v4 v7 v8 h)
theorem n11_eq {R : Type} (k : Nat) (G : KT5 R) (σ : GS) (h : Heap) : KC k 19 c11 σ h (fun x σ h => G x (σ 0) (σ 1) (σ 4) (σ 7) (σ 8) h) = n11 k G (σ 0) (σ 1) (σ 4) (σ 7) (σ 8) h := by kernel_rfl
@[simp] def n10 {R : Type} (k : Nat) (G : KT5 R) (v0 v1 v4 v7 v8 : GV) (h : Heap) : Option R := n11 k (fun x v0 v1 v4 v7 v8 h => kb 1 x fun x => G x v0 v1 v4 v7 v8 h) v0 v1 v4 v7 v8 h
theorem n10_eq {R : Type} (k : Nat) (G : KT5 R) (σ : GS) (h : Heap) : KC k 19 c10 σ h (fun x σ h => G x (σ 0) (σ 1) (σ 4) (σ 7) (σ 8) h) = n10 k G (σ 0) (σ 1) (σ 4) (σ 7) (σ 8) h := (kblock_eq (a := c11) rfl).trans (n11_eq k (fun x v0 v1 v4 v7 v8 h => kb 1 x fun x => G x v0 v1 v4 v7 v8 h) σ h)
@[simp] def n8 {R : Type} (k : Nat) (G : KT5 R) (v0 v1 v4 v7 v8 : GV) (h : Heap) : Option R := n10 k (fun x v0 v1 v4 v7 v8 h => kx x (n9 k G v0 v1 v4 v7 v8 h) (G x v0 v1 v4 v7 v8 h)) v0 v1 v4 v7 v8 h
theorem n8_eq {R : Type} (k : Nat) (G : KT5 R) (σ : GS) (h : Heap) : KC k 19 c8 σ h (fun x σ h => G x (σ 0) (σ 1) (σ 4) (σ 7) (σ 8) h) = n8 k G (σ 0) (σ 1) (σ 4) (σ 7) (σ 8) h := (kseq (b := c9) rfl (fun σ h => n9_eq k G σ h)).trans (n10_eq k (fun x v0 v1 v4 v7 v8 h => kx x (n9 k G v0 v1 v4 v7 v8 h) (G x v0 v1 v4 v7 v8 h)) σ h)
noncomputable def c12 : Code := cL c7
@[simp] def n7 {R : Type} (k : Nat) (G : KT5 R) (v0 v1 v4 v7 v8 v9 : GV) (h : Heap) : Option R := kcond v9 (n8 k G v0 v1 v4 v7 v8 h) (G (.ext 0) v0 v1 v4 v7 v8 h)
theorem n7_eq0 {R : Type} (k : Nat) (G : KT5 R) (σ : GS) (h : Heap) : KC k 19 c12 σ h (fun x σ h => kx x (n8 k G (σ 0) (σ 1) (σ 4) (σ 7) (σ 8) h) (G x (σ 0) (σ 1) (σ 4) (σ 7) (σ 8) h)) = n7 k G (σ 0) (σ 1) (σ 4) (σ 7) (σ 8) (σ 9) h := by kernel_rfl
theorem n7_eq {R : Type} (k : Nat) (G : KT5 R) (σ : GS) (h : Heap) : KC k 19 c7 σ h (fun x σ h => G x (σ 0) (σ 1) (σ 4) (σ 7) (σ 8) h) = n7 k G (σ 0) (σ 1) (σ 4) (σ 7) (σ 8) (σ 9) h := (kseq (b := c8) rfl (fun σ h => n8_eq k G σ h)).trans (n7_eq0 k G σ h)
noncomputable def c13 : Code := cL c6
@[simp] def n6 {R : Type} (k : Nat) (G : KT5 R) (v0 v1 v4 v7 v8 : GV) (h : Heap) : Option R := (kbin .lss v8 v7).bind fun v9 => n7 k G v0 v1 v4 v7 v8 v9 h
theorem n6_eq0 {R : Type} (k : Nat) (G : KT5 R) (σ : GS) (h : Heap) : KC k 19 c13 σ h (fun x σ h => kx x (n7 k G (σ 0) (σ 1) (σ 4) (σ 7) (σ 8) (σ 9) h) (G x (σ 0) (σ 1) (σ 4) (σ 7) (σ 8) h)) = n6 k G (σ 0) (σ 1) (σ 4) (σ 7) (σ 8) h := by kernel_rfl
theorem n6_eq {R : Type} (k : Nat) (G : KT5 R) (σ : GS) (h : Heap) : KC k 19 c6 σ h (fun x σ h => G x (σ 0) (σ 1) (σ 4) (σ 7) (σ 8) h) = n6 k G (σ 0) (σ 1) (σ 4) (σ 7) (σ 8) h := (kseq (b := c7) rfl (fun σ h => n7_eq k G σ h)).trans (n6_eq0 k G σ h)
def l5 {R : Type} (k : Nat) (G : KT1 R) : Nat → GV → GV → GV → GV → GV → Heap → Option R
  | 0, _, _, _, _, _, _ => none
  | r + 1, v0, v1, v4, v7, v8, h => n6 k (fun x v0 v1 v4 v7 v8 h => kx x (l5 k G r v0 v1 v4 v7 v8 h) (G x v4 h)) v0 v1 v4 v7 v8 h
theorem l5_eq {R : Type} (k : Nat) (G : KT1 R) : ∀ (r : Nat) (σ : GS) (h : Heap), kloop (fun σ h K => KC k 19 c6 σ h K) r σ h (fun x σ h => G x (σ 4) h) = l5 k G r (σ 0) (σ 1) (σ 4) (σ 7) (σ 8) h
  | 0, _, _ => rfl
  | r + 1, σ, h => (kloop_eq (fun σ h => l5_eq k G r σ h)).trans (n6_eq k (fun x v0 v1 v4 v7 v8 h => kx x (l5 k G r v0 v1 v4 v7 v8 h) (G x v4 h)) σ h)
@[simp] def n5 {R : Type} (k : Nat) (G : KT1 R) (v0 v1 v4 v7 v8 : GV) (h : Heap) : Option R := l5 k G k v0 v1 v4 v7 v8 h
theorem n5_eq {R : Type} (k : Nat) (G : KT1 R) (σ : GS) (h : Heap) : KC k 19 c5 σ h (fun x σ h => G x (σ 4) h) = n5 k G (σ 0) (σ 1) (σ 4) (σ 7) (σ 8) h := (kloopc_eq (a := c6) rfl).trans (l5_eq k G k σ h)
@[simp] def n4 {R : Type} (k : Nat) (G : KT1 R) (v0 v1 v4 v7 v8 : GV) (h : Heap) : Option R := n5 k (fun x v4 h => kb 0 x fun x => G x v4 h) v0 v1 v4 v7 v8 h
theorem n4_eq {R : Type} (k : Nat) (G : KT1 R) (σ : GS) (h : Heap) : KC k 19 c4 σ h (fun x σ h => G x (σ 4) h) = n4 k G (σ 0) (σ 1) (σ 4) (σ 7) (σ 8) h := (kblock_eq (a := c5) rfl).trans (n5_eq k (fun x v4 h => kb 0 x fun x => G x v4 h) σ h)
noncomputable def c14 : Code := cL c3
@[simp] def n3 {R : Type} (k : Nat) (G : KT1 R) (v0 v1 v4 : GV) (h : Heap) : Option R := (klen v0).bind fun v7 => n4 k G v0 v1 v4 v7 (.int .i64 0) h
theorem n3_eq0 {R : Type} (k : Nat) (G : KT1 R) (σ : GS) (h : Heap) : KC k 19 c14 σ h (fun x σ h => kx x (n4 k G (σ 0) (σ 1) (σ 4) (σ 7) (σ 8) h) (G x (σ 4) h)) = n3 k G (σ 0) (σ 1) (σ 4) h := by kernel_rfl
theorem n3_eq {R : Type} (k : Nat) (G : KT1 R) (σ : GS) (h : Heap) : KC k 19 c3 σ h (fun x σ h => G x (σ 4) h) = n3 k G (σ 0) (σ 1) (σ 4) h := (kseq (b := c4) rfl (fun σ h => n4_eq k G σ h)).trans (n3_eq0 k G σ h)
@[simp] def n1 {R : Type} (k : Nat) (G : KT1 R) (v0 v1 v4 : GV) (h : Heap) : Option R := n3 k (fun x v4 h => kx x (n2 k G h) (G x v4 h)) v0 v1 v4 h
theorem n1_eq {R : Type} (k : Nat) (G : KT1 R) (σ : GS) (h : Heap) : KC k 19 c1 σ h (fun x σ h => G x (σ 4) h) = n1 k G (σ 0) (σ 1) (σ 4) h := (kseq (b := c2) rfl (fun σ h => n2_eq k G σ h)).trans (n3_eq k (fun x v4 h => kx x (n2 k G h) (G x v4 h)) σ h)
noncomputable def c15 : Code := cL c0
@[simp] def n0 {R : Type} (k : Nat) (G : KT1 R) (v0 v1 : GV) (h : Heap) : Option R := n1 k G v0 v1 (.int .i64 0) h
theorem n0_eq0 {R : Type} (k : Nat) (G : KT1 R) (σ : GS) (h : Heap) : KC k 19 c15 σ h (fun x σ h => kx x (n1 k G (σ 0) (σ 1) (σ 4) h) (G x (σ 4) h)) = n0 k G (σ 0) (σ 1) h := by kernel_rfl
theorem n0_eq {R : Type} (k : Nat) (G : KT1 R) (σ : GS) (h : Heap) : KC k 19 c0 σ h (fun x σ h => G x (σ 4) h) = n0 k G (σ 0) (σ 1) h := (kseq (b := c1) rfl (fun σ h => n1_eq k G σ h)).trans (n0_eq0 k G σ h)
def run {R : Type} (k : Nat) (a0 : GV) (a1 : GV) (h : Heap) (fin : GV → Heap → Option R) : Option R := n0 k (fun x v4 h => kend x (fin v4 h)) a0 a1 h
theorem run_eq {R : Type} (k : Nat) (a0 : GV) (a1 : GV) (h : Heap) (fin : GV → Heap → Option R) : kfun PP cfg NN HH k fn.slices_IndexFunc_int64 [a0, a1] h fin = run k a0 a1 h fin := (kfun_eq (nt := 19) (c := c0) (show PP.funcs[fn.slices_IndexFunc_int64]? = some Try.f140 by kernel_rfl) (by kernel_rfl) (by kernel_rfl) (fun x σ h => by cases x <;> kernel_rfl)).trans (n0_eq k (fun x v4 h => kend x (fin v4 h)) _ h)
theorem gives {k : Nat} {a0 : GV} {a1 : GV} {v : GV} (e : run k a0 a1 [] finN = some v) : NN fn.slices_IndexFunc_int64 [a0, a1] = some v := nω_of (by kernel_rfl) ((run_eq k a0 a1 [] finN).trans e)
end S.slices_IndexFunc_int64
/-! slices_IndexFunc_string -/
namespace S.slices_IndexFunc_string
noncomputable def c0 : Code := bodyOf Try.f142
noncomputable def c1 : Code := cR c0
noncomputable def c2 : Code := cR c1
@[simp] def n2 {R : Type} (k : Nat) (G : KT1 R) (h : Heap) : Option R := G .ret (.int .i64 (-1)) h
theorem n2_eq {R : Type} (k : Nat) (G : KT1 R) (σ : GS) (h : Heap) : KC k 19 c2 σ h (fun x σ h => G x (σ 4) h) = n2 k G h := by kernel_rfl
noncomputable def c3 : Code := cL c1
noncomputable def c4 : Code := cR c3
noncomputable def c5 : Code := cL c4
noncomputable def c6 : Code := cL c5
noncomputable def c7 : Code := cR c6
noncomputable def c8 : Code := cR c7
noncomputable def c9 : Code := cR c8
@[simp] def n9 {R : Type} (k : Nat) (G : KT5 R) (v0 v1 v4 v7 v8 : GV) (h : Heap) : Option R := (kbin .add v8 (.int .i64 1)).bind fun v18 => G .nrm v0 v1 v4 v7 v18 h
theorem n9_eq {R : Type} (k : Nat) (G : KT5 R) (σ : GS) (h : Heap) : KC k 19 c9 σ h (fun x σ h => G x (σ 0) (σ 1) (σ 4) (σ 7) (σ 8) h) = n9 k G (σ 0) (σ 1) (σ 4) (σ 7) (σ 8) h := by kernel_rfl
noncomputable def c10 : Code := cL c8
noncomputable def c11 : Code := cL c10
@[simp] def n11 {R : Type} (k : Nat) (G : KT5 R) (v0 v1 v4 v7 v8 : GV) (h : Heap) : Option R := (kia 1 v0 v8).bind fun v14 => (kload1 h v14).bind fun v15 => kval v1 [v15] h fun v16 h => kcond v16 (G .ret v0 v1 v8 v7 v8 h) (G .nrm v0 v1 v4 v7 v8 h)
theorem n11_eq {R : Type} (k : Nat) (G : KT5 R) (σ : GS) (h : Heap) : KC k 19 c11 σ h (fun x σ h => G x (σ 0) (σ 1) (σ 4) (σ 7) (σ 8) h) = n11 k G (σ 0) (σ 1) (σ 4) (σ 7) (σ 8) h := by kernel_rfl
@[simp] def n10 {R : Type} (k : Nat) (G : KT5 R) (v0 v1 v4 v7 v8 : GV) (h : Heap) : Option R := n11 k (fun x v0 v1 v4 v7 v8 h => kb 1 x fun x => G x v0 v1 v4 v7 v8 h) v0 v1 v4 v7 v8 h
theorem n10_eq {R : Type} (k : Nat) (G : KT5 R) (σ : GS) (h : Heap) : KC k 19 c10 σ h (fun x σ h => G x (σ 0) (σ 1) (σ 4) (σ 7) (σ 8) h) = n10 k G (σ 0) (σ 1) (σ 4) (σ 7) (σ 8) h := (kblock_eq (a := c11) rfl).trans (n11_eq k (fun x v0 v1 v4 v7 v8 h => kb 1 x fun x => G x v0 v1 v4 v7 v8 h) σ h)
@[simp] def n8 {R : Type} (k : Nat) (G : KT5 R) (v0 v1 v4 v7 v8 : GV) (h : Heap) : Option R := n10 k (fun x v0 v1 v4 v7 v8 h => kx x (n9 k G v0 v1 v4 v7 v8 h) (G x v0 v1 v4 v7 v8 h)) v0 v1 v4 v7 v8 h
theorem n8_eq {R : Type} (k : Nat) (G : KT5 R) (σ : GS) (h : Heap) : KC k 19 c8 σ h (fun x σ h => G x (σ 0) (σ 1) (σ 4) (σ 7) (σ 8) h) = n8 k G (σ 0) (σ 1) (σ 4) (σ 7) (σ 8) h := (kseq (b := c9) rfl (fun σ h => n9_eq k G σ h)).trans (n10_eq k (fun x v0 v1 v4 v7 v8 h => kx x (n9 k G v0 v1 v4 v7 v8 h) (G x v0 v1 v4 v7 v8 h)) σ h)
noncomputable def c12 : Code := cL c7
@[simp] def n7 {R : Type} (k : Nat) (G : KT5 R) (v0 v1 v4 v7 v8 v9 : GV) (h : Heap) : Option R := kcond v9 (n8 k G v0 v1 v4 v7 v8 h) (G (.ext 0) v0 v1 v4 v7 v8 h)
theorem n7_eq0 {R : Type} (k : Nat) (G : KT5 R) (σ : GS) (h : Heap) : KC k 19 c12 σ h (fun x σ h => kx x (n8 k G (σ 0) (σ 1) (σ 4) (σ 7) (σ 8) h) (G x (σ 0) (σ 1) (σ 4) (σ 7) (σ 8) h)) = n7 k G (σ 0) (σ 1) (σ 4) (σ 7) (σ 8) (σ 9) h := by kernel_rfl
theorem n7_eq {R : Type} (k : Nat) (G : KT5 R) (σ : GS) (h : Heap) : KC k 19 c7 σ h (fun x σ h => G x (σ 0) (σ 1) (σ 4) (σ 7) (σ 8) h) = n7 k G (σ 0) (σ 1) (σ 4) (σ 7) (σ 8) (σ 9) h := (kseq (b := c8) rfl (fun σ h => n8_eq k G σ h)).trans (n7_eq0 k G σ h)
noncomputable def c13 : Code := cL c6
@[simp] def n6 {R : Type} (k : Nat) (G : KT5 R) (v0 v1 v4 v7 v8 : GV) (h : Heap) : Option R := (kbin .lss v8 v7).bind fun v9 => n7 k G v0 v1 v4 v7 v8 v9 h
theorem n6_eq0 {R : Type} (k : Nat) (G : KT5 R) (σ : GS) (h : Heap) : KC k 19 c13 σ h (fun x σ h => kx x (n7 k G (σ 0) (σ 1) (σ 4) (σ 7) (σ 8) (σ 9) h) (G x (σ 0) (σ 1) (σ 4) (σ 7) (σ 8) h)) = n6 k G (σ 0) (σ 1) (σ 4) (σ 7) (σ 8) h := by kernel_rfl
theorem n6_eq {R : Type} (k : Nat) (G : KT5 R) (σ : GS) (h : Heap) : KC k 19 c6 σ h (fun x σ h => G x (σ 0) (σ 1) (σ 4) (σ 7) (σ 8) h) = n6 k G (σ 0) (σ 1) (σ 4) (σ 7) (σ 8) h := (kseq (b := c7) rfl (fun σ h => n7_eq k G σ h)).trans (n6_eq0 k G σ h)
def l5 {R : Type} (k : Nat) (G : KT1 R) : Nat → GV → GV → GV → GV → GV → Heap → Option R
  | 0, _, _, _, _, _, _ => none
  | r + 1, v0, v1, v4, v7, v8, h => n6 k (fun x v0 v1 v4 v7 v8 h => kx x (l5 k G r v0 v1 v4 v7 v8 h) (G x v4 h)) v0 v1 v4 v7 v8 h
theorem l5_eq {R : Type} (k : Nat) (G : KT1 R) : ∀ (r : Nat) (σ : GS) (h : Heap), kloop (fun σ h K => KC k 19 c6 σ h K) r σ h (fun x σ h => G x (σ 4) h) = l5 k G r (σ 0) (σ 1) (σ 4) (σ 7) (σ 8) h
  | 0, _, _ => rfl
  | r + 1, σ, h => (kloop_eq (fun σ h => l5_eq k G r σ h)).trans (n6_eq k (fun x v0 v1 v4 v7 v8 h => kx x (l5 k G r v0 v1 v4 v7 v8 h) (G x v4 h)) σ h)
@[simp] def n5 {R : Type} (k : Nat) (G : KT1 R) (v0 v1 v4 v7 v8 : GV) (h : Heap) : Option R := l5 k G k v0 v1 v4 v7 v8 h
theorem n5_eq {R : Type} (k : Nat) (G : KT1 R) (σ : GS) (h : Heap) : KC k 19 c5 σ h (fun x σ h => G x (σ 4) h) = n5 k G (σ 0) (σ 1) (σ 4) (σ 7) (σ 8) h := (kloopc_eq (a := c6) rfl).trans (l5_eq k G k σ h)
@[simp] def n4 {R : Type} (k : Nat) (G : KT1 R) (v0 v1 v4 v7 v8 : GV) (h : Heap) : Option R := n5 k (fun x v4 h => kb 0 x fun x => G x v4 h) v0 v1 v4 v7 v8 h
theorem n4_eq {R : Type} (k : Nat) (G : KT1 R) (σ : GS) (h : Heap) : KC k 19 c4 σ h (fun x σ h => G x (σ 4) h) = n4 k G (σ 0) (σ 1) (σ 4) (σ 7) (σ 8) h := (kblock_eq (a := c5) rfl).trans (n5_eq k (fun x v4 h => kb 0 x fun x => G x v4 h) σ h)
noncomputable def c14 : Code := cL c3
@[simp] def n3 {R : Type} (k : Nat) (G : KT1 R) (v0 v1 v4 : GV) (h : Heap) : Option R := (klen v0).bind fun v7 => n4 k G v0 v1 v4 v7 (.int .i64 0) h
theorem n3_eq0 {R : Type} (k : Nat) (G : KT1 R) (σ : GS) (h : Heap) : KC k 19 c14 σ h (fun x σ h => kx x (n4 k G (σ 0) (σ 1) (σ 4) (σ 7) (σ 8) h) (G x (σ 4) h)) = n3 k G (σ 0) (σ 1) (σ 4) h := by kernel_rfl
theorem n3_eq {R : Type} (k : Nat) (G : KT1 R) (σ : GS) (h : Heap) : KC k 19 c3 σ h (fun x σ h => G x (σ 4) h) = n3 k G (σ 0) (σ 1) (σ 4) h := (kseq (b := c4) rfl (fun σ h => n4_eq k G σ h)).trans (n3_eq0 k G σ h)
@[simp] def n1 {R : Type} (k : Nat) (G : KT1 R) (v0 v1 v4 : GV) (h : Heap) : Option R := n3 k (fun x v4 h => kx x (n2 k G h) (G x v4 h)) v0 v1 v4 h
theorem n1_eq {R : Type} (k : Nat) (G : KT1 R) (σ : GS) (h : Heap) : KC k 19 c1 σ h (fun x σ h => G x (σ 4) h) = n1 k G (σ 0) (σ 1) (σ 4) h := (kseq (b := c2) rfl (fun σ h => n2_eq k G σ h)).trans (n3_eq k (fun x v4 h => kx x (n2 k G h) (G x v4 h)) σ h)
noncomputable def c15 : Code := cL c0
@[simp] def n0 {R : Type} (k : Nat) (G : KT1 R) (v0 v1 : GV) (h : Heap) : Option R := n1 k G v0 v1 (.int .i64 0) h
theorem n0_eq0 {R : Type} (k : Nat) (G : KT1 R) (σ : GS) (h : Heap) : KC k 19 c15 σ h (fun x σ h => kx x (n1 k G (σ 0) (σ 1) (σ 4) h) (G x (σ 4) h)) = n0 k G (σ 0) (σ 1) h := by kernel_rfl
theorem n0_eq {R : Type} (k : Nat) (G : KT1 R) (σ : GS) (h : Heap) : KC k 19 c0 σ h (fun x σ h => G x (σ 4) h) = n0 k G (σ 0) (σ 1) h := (kseq (b := c1) rfl (fun σ h => n1_eq k G σ h)).trans (n0_eq0 k G σ h)
def run {R : Type} (k : Nat) (a0 : GV) (a1 : GV) (h : Heap) (fin : GV → Heap → Option R) : Option R := n0 k (fun x v4 h => kend x (fin v4 h)) a0 a1 h
theorem run_eq {R : Type} (k : Nat) (a0 : GV) (a1 : GV) (h : Heap) (fin : GV → Heap → Option R) : kfun PP cfg NN HH k fn.slices_IndexFunc_string [a0, a1] h fin = run k a0 a1 h fin := (kfun_eq (nt := 19) (c := c0) (show PP.funcs[fn.slices_IndexFunc_string]? = some Try.f142 by kernel_rfl) (by kernel_rfl) (by kernel_rfl) (fun x σ h => by cases x <;> kernel_rfl)).trans (n0_eq k (fun x v4 h => kend x (fin v4 h)) _ h)
theorem gives {k : Nat} {a0 : GV} {a1 : GV} {v : GV} (e : run k a0 a1 [] finN = some v) : NN fn.slices_IndexFunc_string [a0, a1] = some v := nω_of (by kernel_rfl) ((run_eq k a0 a1 [] finN).trans e)
end S.slices_IndexFunc_string
/-! cmp_Less_int64 -/
namespace S.cmp_Less_int64
noncomputable def c0 : Code := bodyOf Try.f143
noncomputable def c1 : Code := cR c0
noncomputable def c2 : Code := cR c1
@[simp] def n2 {R : Type} (k : Nat) (G : KT1 R) (v4 : GV) (h : Heap) : Option R := G .ret v4 h
theorem n2_eq {R : Type} (k : Nat) (G : KT1 R) (σ : GS) (h : Heap) : KC k 17 c2 σ h (fun x σ h => G x (σ 4) h) = n2 k G (σ 4) h := by kernel_rfl
noncomputable def c3 : Code := cL c1
noncomputable def o3 : Array Oper := cO c3
@[simp] def g3_4 {R : Type} (k : Nat) (G : KT1 R) (v12 v15 : GV) (h : Heap) : Option R := (kpick v12 (.bool true) v15).bind fun v16 => G .nrm v16 h
theorem g3_4_eq {R : Type} (k : Nat) (G : KT1 R) (σ : GS) (h : Heap) : kgroups PP cfg NN HH 17 o3 [(none, [11, 12])] σ h (fun σ h => G .nrm (σ 4) h) = g3_4 k G (σ 12) (σ 15) h := by kernel_rfl
@[simp] def g3_3 {R : Type} (k : Nat) (G : KT1 R) (v0 v1 v12 : GV) (h : Heap) : Option R := bif tr false v12 then (kbin .lss v0 v1).bind fun v15 => g3_4 k G v12 v15 h else g3_4 k G v12 .un h
theorem g3_3_eq0 {R : Type} (k : Nat) (G : KT1 R) (σ : GS) (h : Heap) : kgroup1 PP cfg NN HH 17 o3 (some (7, false), [8, 9, 10]) σ h (fun σ h => g3_4 k G (σ 12) (σ 15) h) = g3_3 k G (σ 0) (σ 1) (σ 12) h := by kernel_rfl
theorem g3_3_eq {R : Type} (k : Nat) (G : KT1 R) (σ : GS) (h : Heap) : kgroups PP cfg NN HH 17 o3 [(some (7, false), [8, 9, 10]), (none, [11, 12])] σ h (fun σ h => G .nrm (σ 4) h) = g3_3 k G (σ 0) (σ 1) (σ 12) h := (kgroups_cons (fun σ h => g3_4_eq k G σ h)).trans (g3_3_eq0 k G σ h)
@[simp] def g3_2 {R : Type} (k : Nat) (G : KT1 R) (v0 v1 v7 v10 : GV) (h : Heap) : Option R := (kpick v7 v10 (.bool false)).bind fun v11 => g3_3 k G v0 v1 v11 h
theorem g3_2_eq0 {R : Type} (k : Nat) (G : KT1 R) (σ : GS) (h : Heap) : kgroup1 PP cfg NN HH 17 o3 (none, [6, 7]) σ h (fun σ h => g3_3 k G (σ 0) (σ 1) (σ 12) h) = g3_2 k G (σ 0) (σ 1) (σ 7) (σ 10) h := by kernel_rfl
theorem g3_2_eq {R : Type} (k : Nat) (G : KT1 R) (σ : GS) (h : Heap) : kgroups PP cfg NN HH 17 o3 [(none, [6, 7]), (some (7, false), [8, 9, 10]), (none, [11, 12])] σ h (fun σ h => G .nrm (σ 4) h) = g3_2 k G (σ 0) (σ 1) (σ 7) (σ 10) h := (kgroups_cons (fun σ h => g3_3_eq k G σ h)).trans (g3_2_eq0 k G σ h)
@[simp] def g3_1 {R : Type} (k : Nat) (G : KT1 R) (v0 v1 v7 : GV) (h : Heap) : Option R := bif tr true v7 then (kN NN fn.cmp_isNaN_int64 [v1] h).bind fun v9 => (kun .not v9).bind fun v10 => g3_2 k G v0 v1 v7 v10 h else g3_2 k G v0 v1 v7 .un h
theorem g3_1_eq0 {R : Type} (k : Nat) (G : KT1 R) (σ : GS) (h : Heap) : kgroup1 PP cfg NN HH 17 o3 (some (2, true), [3, 4, 5]) σ h (fun σ h => g3_2 k G (σ 0) (σ 1) (σ 7) (σ 10) h) = g3_1 k G (σ 0) (σ 1) (σ 7) h := by kernel_rfl
theorem g3_1_eq {R : Type} (k : Nat) (G : KT1 R) (σ : GS) (h : Heap) : kgroups PP cfg NN HH 17 o3 [(some (2, true), [3, 4, 5]), (none, [6, 7]), (some (7, false), [8, 9, 10]), (none, [11, 12])] σ h (fun σ h => G .nrm (σ 4) h) = g3_1 k G (σ 0) (σ 1) (σ 7) h := (kgroups_cons (fun σ h => g3_2_eq k G σ h)).trans (g3_1_eq0 k G σ h)
@[simp] def g3_0 {R : Type} (k : Nat) (G : KT1 R) (v0 v1 : GV) (h : Heap) : Option R := (kN NN fn.cmp_isNaN_int64 [v0] h).bind fun v6 => g3_1 k G v0 v1 v6 h
theorem g3_0_eq0 {R : Type} (k : Nat) (G : KT1 R) (σ : GS) (h : Heap) : kgroup1 PP cfg NN HH 17 o3 (none, [0, 1, 2]) σ h (fun σ h => g3_1 k G (σ 0) (σ 1) (σ 7) h) = g3_0 k G (σ 0) (σ 1) h := by kernel_rfl
theorem g3_0_eq {R : Type} (k : Nat) (G : KT1 R) (σ : GS) (h : Heap) : kgroups PP cfg NN HH 17 o3 [(none, [0, 1, 2]), (some (2, true), [3, 4, 5]), (none, [6, 7]), (some (7, false), [8, 9, 10]), (none, [11, 12])] σ h (fun σ h => G .nrm (σ 4) h) = g3_0 k G (σ 0) (σ 1) h := (kgroups_cons (fun σ h => g3_1_eq k G σ h)).trans (g3_0_eq0 k G σ h)
@[simp] def n3 {R : Type} (k : Nat) (G : KT1 R) (v0 v1 : GV) (h : Heap) : Option R := g3_0 k G v0 v1 h
theorem n3_eq {R : Type} (k : Nat) (G : KT1 R) (σ : GS) (h : Heap) : KC k 17 c3 σ h (fun x σ h => G x (σ 4) h) = n3 k G (σ 0) (σ 1) h := (kregion_eq (id := 1) (draw := false) (ops := o3) (gs := [(none, [0, 1, 2]), (some (2, true), [3, 4, 5]), (none, [6, 7]), (some (7, false), [8, 9, 10]), (none, [11, 12])]) (by kernel_rfl) (by kernel_rfl) (by kernel_rfl)).trans (g3_0_eq k G σ h)
@[simp] def n1 {R : Type} (k : Nat) (G : KT1 R) (v0 v1 : GV) (h : Heap) : Option R := n3 k (fun x v4 h => kx x (n2 k G v4 h) (G x v4 h)) v0 v1 h
theorem n1_eq {R : Type} (k : Nat) (G : KT1 R) (σ : GS) (h : Heap) : KC k 17 c1 σ h (fun x σ h => G x (σ 4) h) = n1 k G (σ 0) (σ 1) h := (kseq (b := c2) rfl (fun σ h => n2_eq k G σ h)).trans (n3_eq k (fun x v4 h => kx x (n2 k G v4 h) (G x v4 h)) σ h)
noncomputable def c4 : Code := cL c0
@[simp] def n0 {R : Type} (k : Nat) (G : KT1 R) (v0 v1 : GV) (h : Heap) : Option R := n1 k G v0 v1 h
theorem n0_eq0 {R : Type} (k : Nat) (G : KT1 R) (σ : GS) (h : Heap) : KC k 17 c4 σ h (fun x σ h => kx x (n1 k G (σ 0) (σ 1) h) (G x (σ 4) h)) = n0 k G (σ 0) (σ 1) h := by kernel_rfl
theorem n0_eq {R : Type} (k : Nat) (G : KT1 R) (σ : GS) (h : Heap) : KC k 17 c0 σ h (fun x σ h => G x (σ 4) h) = n0 k G (σ 0) (σ 1) h := (kseq (b := c1) rfl (fun σ h => n1_eq k G σ h)).trans (n0_eq0 k G σ h)
def run {R : Type} (k : Nat) (a0 : GV) (a1 : GV) (h : Heap) (fin : GV → Heap → Option R) : Option R := n0 k (fun x v4 h => kend x (fin v4 h)) a0 a1 h
theorem run_eq {R : Type} (k : Nat) (a0 : GV) (a1 : GV) (h : Heap) (fin : GV → Heap → Option R) : kfun PP cfg NN HH k fn.cmp_Less_int64 [a0, a1] h fin = run k a0 a1 h fin := (kfun_eq (nt := 17) (c := c0) (show PP.funcs[fn.cmp_Less_int64]? = some Try.f143 by kernel_rfl) (by kernel_rfl) (by kernel_rfl) (fun x σ h => by cases x <;> kernel_rfl)).trans (n0_eq k (fun x v4 h => kend x (fin v4 h)) _ h)
theorem gives {k : Nat} {a0 : GV} {a1 : GV} {v : GV} (e : run k a0 a1 [] finN = some v) : NN fn.cmp_Less_int64 [a0, a1] = some v := nω_of (by kernel_rfl) ((run_eq k a0 a1 [] finN).trans e)
end S.cmp_Less_int64
/-! cmp_isNaN_int64 -/
namespace S.cmp_isNaN_int64
noncomputable def c0 : Code := bodyOf Try.f154
@[simp] def n0 {R : Type} (k : Nat) (G : KT1 R) (v0 : GV) (h : Heap) : Option R := (kbin .neq v0 v0).bind fun v5 => G .ret v5 h
theorem n0_eq {R : Type} (k : Nat) (G : KT1 R) (σ : GS) (h : Heap) : KC k 6 c0 σ h (fun x σ h => G x (σ 2) h) = n0 k G (σ 0) h := by kernel_rfl
def run {R : Type} (k : Nat) (a0 : GV) (h : Heap) (fin : GV → Heap → Option R) : Option R := n0 k (fun x v2 h => kend x (fin v2 h)) a0 h
theorem run_eq {R : Type} (k : Nat) (a0 : GV) (h : Heap) (fin : GV → Heap → Option R) : kfun PP cfg NN HH k fn.cmp_isNaN_int64 [a0] h fin = run k a0 h fin := (kfun_eq (nt := 6) (c := c0) (show PP.funcs[fn.cmp_isNaN_int64]? = some Try.f154 by kernel_rfl) (by kernel_rfl) (by kernel_rfl) (fun x σ h => by cases x <;> kernel_rfl)).trans (n0_eq k (fun x v2 h => kend x (fin v2 h)) _ h)
theorem gives {k : Nat} {a0 : GV} {v : GV} (e : run k a0 [] finN = some v) : NN fn.cmp_isNaN_int64 [a0] = some v := nω_of (by kernel_rfl) ((run_eq k a0 [] finN).trans e)
end S.cmp_isNaN_int64
end
end Go.Proofs.Ytopmnigfklgnkaa.G
