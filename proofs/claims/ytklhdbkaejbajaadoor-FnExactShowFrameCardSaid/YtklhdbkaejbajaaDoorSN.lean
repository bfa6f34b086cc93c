/- What these functions do, told for open values, out of the machine with continuations. Printed by a program of this session. -/
import Derived.Test.YtklhdbkaejbajaaDoorCfg
import Derived.KernelRfl
namespace Go.Proofs.YtklhdbkaejbajaaDoor.G
open Go.RowKit
set_option linter.unusedVariables false
set_option maxRecDepth 100000
abbrev KT0 (R : Type) : Type := GX → Heap → Option R
abbrev KT1 (R : Type) : Type := GX → GV → Heap → Option R
abbrev KT2 (R : Type) : Type := GX → GV → GV → Heap → Option R
abbrev KT3 (R : Type) : Type := GX → GV → GV → GV → Heap → Option R
abbrev KT4 (R : Type) : Type := GX → GV → GV → GV → GV → Heap → Option R
abbrev KT5 (R : Type) : Type := GX → GV → GV → GV → GV → GV → Heap → Option R
abbrev KT6 (R : Type) : Type := GX → GV → GV → GV → GV → GV → GV → Heap → Option R
abbrev KT7 (R : Type) : Type := GX → GV → GV → GV → GV → GV → GV → GV → Heap → Option R
abbrev KT8 (R : Type) : Type := GX → GV → GV → GV → GV → GV → GV → GV → GV → Heap → Option R
abbrev KT9 (R : Type) : Type := GX → GV → GV → GV → GV → GV → GV → GV → GV → GV → Heap → Option R
abbrev KT10 (R : Type) : Type := GX → GV → GV → GV → GV → GV → GV → GV → GV → GV → GV → Heap → Option R
abbrev KT11 (R : Type) : Type := GX → GV → GV → GV → GV → GV → GV → GV → GV → GV → GV → GV → Heap → Option R
abbrev KT12 (R : Type) : Type := GX → GV → GV → GV → GV → GV → GV → GV → GV → GV → GV → GV → GV → Heap → Option R
abbrev KT13 (R : Type) : Type := GX → GV → GV → GV → GV → GV → GV → GV → GV → GV → GV → GV → GV → GV → Heap → Option R
abbrev KT14 (R : Type) : Type := GX → GV → GV → GV → GV → GV → GV → GV → GV → GV → GV → GV → GV → GV → GV → Heap → Option R
abbrev KT15 (R : Type) : Type := GX → GV → GV → GV → GV → GV → GV → GV → GV → GV → GV → GV → GV → GV → GV → GV → Heap → Option R
abbrev KT16 (R : Type) : Type := GX → GV → GV → GV → GV → GV → GV → GV → GV → GV → GV → GV → GV → GV → GV → GV → GV → Heap → Option R
abbrev KT17 (R : Type) : Type := GX → GV → GV → GV → GV → GV → GV → GV → GV → GV → GV → GV → GV → GV → GV → GV → GV → GV → Heap → Option R
abbrev KT18 (R : Type) : Type := GX → GV → GV → GV → GV → GV → GV → GV → GV → GV → GV → GV → GV → GV → GV → GV → GV → GV → GV → Heap → Option R
abbrev KT19 (R : Type) : Type := GX → GV → GV → GV → GV → GV → GV → GV → GV → GV → GV → GV → GV → GV → GV → GV → GV → GV → GV → GV → Heap → Option R
abbrev KT20 (R : Type) : Type := GX → GV → GV → GV → GV → GV → GV → GV → GV → GV → GV → GV → GV → GV → GV → GV → GV → GV → GV → GV → GV → Heap → Option R
abbrev KT21 (R : Type) : Type := GX → GV → GV → GV → GV → GV → GV → GV → GV → GV → GV → GV → GV → GV → GV → GV → GV → GV → GV → GV → GV → GV → Heap → Option R
abbrev KT22 (R : Type) : Type := GX → GV → GV → GV → GV → GV → GV → GV → GV → GV → GV → GV → GV → GV → GV → GV → GV → GV → GV → GV → GV → GV → GV → Heap → Option R
abbrev KT23 (R : Type) : Type := GX → GV → GV → GV → GV → GV → GV → GV → GV → GV → GV → GV → GV → GV → GV → GV → GV → GV → GV → GV → GV → GV → GV → GV → Heap → Option R
abbrev KT24 (R : Type) : Type := GX → GV → GV → GV → GV → GV → GV → GV → GV → GV → GV → GV → GV → GV → GV → GV → GV → GV → GV → GV → GV → GV → GV → GV → GV → Heap → Option R
abbrev KT25 (R : Type) : Type := GX → GV → GV → GV → GV → GV → GV → GV → GV → GV → GV → GV → GV → GV → GV → GV → GV → GV → GV → GV → GV → GV → GV → GV → GV → GV → Heap → Option R
abbrev KT26 (R : Type) : Type := GX → GV → GV → GV → GV → GV → GV → GV → GV → GV → GV → GV → GV → GV → GV → GV → GV → GV → GV → GV → GV → GV → GV → GV → GV → GV → GV → Heap → Option R
abbrev KT27 (R : Type) : Type := GX → GV → GV → GV → GV → GV → GV → GV → GV → GV → GV → GV → GV → GV → GV → GV → GV → GV → GV → GV → GV → GV → GV → GV → GV → GV → GV → GV → Heap → Option R
abbrev KT28 (R : Type) : Type := GX → GV → GV → GV → GV → GV → GV → GV → GV → GV → GV → GV → GV → GV → GV → GV → GV → GV → GV → GV → GV → GV → GV → GV → GV → GV → GV → GV → GV → Heap → Option R
abbrev KT29 (R : Type) : Type := GX → GV → GV → GV → GV → GV → GV → GV → GV → GV → GV → GV → GV → GV → GV → GV → GV → GV → GV → GV → GV → GV → GV → GV → GV → GV → GV → GV → GV → GV → Heap → Option R
abbrev KT30 (R : Type) : Type := GX → GV → GV → GV → GV → GV → GV → GV → GV → GV → GV → GV → GV → GV → GV → GV → GV → GV → GV → GV → GV → GV → GV → GV → GV → GV → GV → GV → GV → GV → GV → Heap → Option R
noncomputable section
variable {R : Type} (k : Nat)
/-! impl_Mix -/
namespace S.impl_Mix
noncomputable def c0 : Code := bodyOf Tryd.f38
noncomputable def c1 : Code := cR c0
noncomputable def c2 : Code := cR c1
noncomputable def c3 : Code := cR c2
@[simp] def n3 {R : Type} (k : Nat) (G : KT1 R) (v5 : GV) (h : Heap) : Option R := G .ret v5 h
theorem n3_eq (G : KT1 R) (σ : GS) (h : Heap) : KC k 23 c3 σ h (fun x σ h => G x (σ 4) h) = n3 k G (σ 5) h := by kernel_rfl
noncomputable def c4 : Code := cL c2
noncomputable def c5 : Code := cR c4
noncomputable def c6 : Code := cL c5
noncomputable def c7 : Code := cL c6
noncomputable def c8 : Code := cR c7
noncomputable def c9 : Code := cR c8
noncomputable def c10 : Code := cR c9
@[simp] def n10 {R : Type} (k : Nat) (G : KT4 R) (v4 v5 v6 v13 : GV) (h : Heap) : Option R := (kbin .add v13 (.int .i64 1)).bind fun v21 => G .nrm v4 v5 v6 v21 h
theorem n10_eq (G : KT4 R) (σ : GS) (h : Heap) : KC k 23 c10 σ h (fun x σ h => G x (σ 4) (σ 5) (σ 6) (σ 13) h) = n10 k G (σ 4) (σ 5) (σ 6) (σ 13) h := by kernel_rfl
noncomputable def c11 : Code := cL c9
noncomputable def c12 : Code := cL c11
@[simp] def n12 {R : Type} (k : Nat) (G : KT4 R) (v4 v5 v6 v13 : GV) (h : Heap) : Option R := (kbin .mul v5 (.int .i64 48271)).bind fun v16 => (kbin .add v16 v6).bind fun v18 => (kbin .add v18 (.int .i64 11)).bind fun v19 => (kbin .rem v19 (.int .i64 2147483647)).bind fun v20 => G .nrm v4 v20 v6 v13 h
theorem n12_eq (G : KT4 R) (σ : GS) (h : Heap) : KC k 23 c12 σ h (fun x σ h => G x (σ 4) (σ 5) (σ 6) (σ 13) h) = n12 k G (σ 4) (σ 5) (σ 6) (σ 13) h := by kernel_rfl
@[simp] def n11 (G : KT4 R) (v4 v5 v6 v13 : GV) (h : Heap) : Option R := n12 k (fun x v4 v5 v6 v13 h => kb 1 x fun x => G x v4 v5 v6 v13 h) v4 v5 v6 v13 h
theorem n11_eq (G : KT4 R) (σ : GS) (h : Heap) : KC k 23 c11 σ h (fun x σ h => G x (σ 4) (σ 5) (σ 6) (σ 13) h) = n11 k G (σ 4) (σ 5) (σ 6) (σ 13) h := (kblock_eq (a := c12) rfl).trans (n12_eq k (fun x v4 v5 v6 v13 h => kb 1 x fun x => G x v4 v5 v6 v13 h) σ h)
@[simp] def n9 (G : KT4 R) (v4 v5 v6 v13 : GV) (h : Heap) : Option R := n11 k (fun x v4 v5 v6 v13 h => kx x (n10 k G v4 v5 v6 v13 h) (G x v4 v5 v6 v13 h)) v4 v5 v6 v13 h
theorem n9_eq (G : KT4 R) (σ : GS) (h : Heap) : KC k 23 c9 σ h (fun x σ h => G x (σ 4) (σ 5) (σ 6) (σ 13) h) = n9 k G (σ 4) (σ 5) (σ 6) (σ 13) h := (kseq (b := c10) rfl (fun σ h => n10_eq k G σ h)).trans (n11_eq k (fun x v4 v5 v6 v13 h => kx x (n10 k G v4 v5 v6 v13 h) (G x v4 v5 v6 v13 h)) σ h)
noncomputable def c13 : Code := cL c8
@[simp] def n8 (G : KT4 R) (v4 v5 v6 v13 v14 : GV) (h : Heap) : Option R := kcond v14 (n9 k G v4 v5 v6 v13 h) (G (.ext 0) v4 v5 v6 v13 h)
theorem n8_eq (G : KT4 R) (σ : GS) (h : Heap) : KC k 23 c8 σ h (fun x σ h => G x (σ 4) (σ 5) (σ 6) (σ 13) h) = n8 k G (σ 4) (σ 5) (σ 6) (σ 13) (σ 14) h := (kseq (a := c13) (b := c9) rfl (fun σ h => n9_eq k G σ h)).trans (by kernel_rfl)
noncomputable def c14 : Code := cL c7
@[simp] def n7 (G : KT4 R) (v4 v5 v6 v13 : GV) (h : Heap) : Option R := (kbin .lss v13 (.int .i64 4)).bind fun v14 => n8 k G v4 v5 v6 v13 v14 h
theorem n7_eq (G : KT4 R) (σ : GS) (h : Heap) : KC k 23 c7 σ h (fun x σ h => G x (σ 4) (σ 5) (σ 6) (σ 13) h) = n7 k G (σ 4) (σ 5) (σ 6) (σ 13) h := (kseq (a := c14) (b := c8) rfl (fun σ h => n8_eq k G σ h)).trans (by kernel_rfl)
def l6 {R : Type} (k : Nat) (G : KT2 R) : Nat → GV → GV → GV → GV → Heap → Option R
  | 0, _, _, _, _, _ => none
  | r + 1, v4, v5, v6, v13, h => n7 k (fun x v4 v5 v6 v13 h => kx x (l6 k G r v4 v5 v6 v13 h) (G x v4 v5 h)) v4 v5 v6 v13 h
theorem l6_eq {R : Type} (k : Nat) (G : KT2 R) : ∀ (r : Nat) (σ : GS) (h : Heap), kloop (fun σ h K => KC k 23 c7 σ h K) r σ h (fun x σ h => G x (σ 4) (σ 5) h) = l6 k G r (σ 4) (σ 5) (σ 6) (σ 13) h
  | 0, _, _ => rfl
  | r + 1, σ, h => (kloop_eq (fun σ h => l6_eq k G r σ h)).trans (n7_eq k (fun x v4 v5 v6 v13 h => kx x (l6 k G r v4 v5 v6 v13 h) (G x v4 v5 h)) σ h)
@[simp] def n6 (G : KT2 R) (v4 v5 v6 v13 : GV) (h : Heap) : Option R := l6 k G k v4 v5 v6 v13 h
theorem n6_eq (G : KT2 R) (σ : GS) (h : Heap) : KC k 23 c6 σ h (fun x σ h => G x (σ 4) (σ 5) h) = n6 k G (σ 4) (σ 5) (σ 6) (σ 13) h := (kloopc_eq (a := c7) rfl).trans (l6_eq k G k σ h)
@[simp] def n5 (G : KT2 R) (v4 v5 v6 v13 : GV) (h : Heap) : Option R := n6 k (fun x v4 v5 h => kb 0 x fun x => G x v4 v5 h) v4 v5 v6 v13 h
theorem n5_eq (G : KT2 R) (σ : GS) (h : Heap) : KC k 23 c5 σ h (fun x σ h => G x (σ 4) (σ 5) h) = n5 k G (σ 4) (σ 5) (σ 6) (σ 13) h := (kblock_eq (a := c6) rfl).trans (n6_eq k (fun x v4 v5 h => kb 0 x fun x => G x v4 v5 h) σ h)
noncomputable def c15 : Code := cL c4
@[simp] def n4 (G : KT2 R) (v4 v5 v6 : GV) (h : Heap) : Option R := n5 k G v4 v5 v6 (.int .i64 0) h
theorem n4_eq (G : KT2 R) (σ : GS) (h : Heap) : KC k 23 c4 σ h (fun x σ h => G x (σ 4) (σ 5) h) = n4 k G (σ 4) (σ 5) (σ 6) h := (kseq (a := c15) (b := c5) rfl (fun σ h => n5_eq k G σ h)).trans (by kernel_rfl)
@[simp] def n2 (G : KT1 R) (v4 v5 v6 : GV) (h : Heap) : Option R := n4 k (fun x v4 v5 h => kx x (n3 k G v5 h) (G x v4 h)) v4 v5 v6 h
theorem n2_eq (G : KT1 R) (σ : GS) (h : Heap) : KC k 23 c2 σ h (fun x σ h => G x (σ 4) h) = n2 k G (σ 4) (σ 5) (σ 6) h := (kseq (b := c3) rfl (fun σ h => n3_eq k G σ h)).trans (n4_eq k (fun x v4 v5 h => kx x (n3 k G v5 h) (G x v4 h)) σ h)
noncomputable def c16 : Code := cL c1
@[simp] def n1 (G : KT1 R) (v0 v1 v4 : GV) (h : Heap) : Option R := (gmax v0 (.int .i64 0)).bind fun v8 => (kbin .rem v8 (.int .i64 2147483647)).bind fun v9 => (gmax v1 (.int .i64 0)).bind fun v11 => (kbin .rem v11 (.int .i64 2147483647)).bind fun v12 => n2 k G v4 v9 v12 h
theorem n1_eq (G : KT1 R) (σ : GS) (h : Heap) : KC k 23 c1 σ h (fun x σ h => G x (σ 4) h) = n1 k G (σ 0) (σ 1) (σ 4) h := (kseq (a := c16) (b := c2) rfl (fun σ h => n2_eq k G σ h)).trans (by kernel_rfl)
noncomputable def c17 : Code := cL c0
@[simp] def n0 (G : KT1 R) (v0 v1 : GV) (h : Heap) : Option R := n1 k G v0 v1 (.int .i64 0) h
theorem n0_eq (G : KT1 R) (σ : GS) (h : Heap) : KC k 23 c0 σ h (fun x σ h => G x (σ 4) h) = n0 k G (σ 0) (σ 1) h := (kseq (a := c17) (b := c1) rfl (fun σ h => n1_eq k G σ h)).trans (by kernel_rfl)
def run {R : Type} (k : Nat) (a0 : GV) (a1 : GV) (h : Heap) (fin : GV → Heap → Option R) : Option R := n0 k (fun x v4 h => kend x (fin v4 h)) a0 a1 h
theorem run_eq {R : Type} (k : Nat) (a0 : GV) (a1 : GV) (h : Heap) (fin : GV → Heap → Option R) : kfun PP cfg NN HH k fn.impl_Mix [a0, a1] h fin = run k a0 a1 h fin := (kfun_eq (nt := 23) (c := c0) (show PP.funcs[fn.impl_Mix]? = some Tryd.f38 by kernel_rfl) (by kernel_rfl) (by kernel_rfl) (fun x σ h => by cases x <;> kernel_rfl)).trans (n0_eq k (fun x v4 h => kend x (fin v4 h)) _ h)
theorem gives {k : Nat} {a0 : GV} {a1 : GV} {v : GV} (e : run k a0 a1 [] finN = some v) : NN fn.impl_Mix [a0, a1] = some v := nω_of (by kernel_rfl) ((run_eq k a0 a1 [] finN).trans e)
end S.impl_Mix
/-! impl_Sum -/
namespace S.impl_Sum
noncomputable def c0 : Code := bodyOf Tryd.f50
noncomputable def c1 : Code := cR c0
noncomputable def c2 : Code := cR c1
noncomputable def c3 : Code := cR c2
@[simp] def n3 {R : Type} (k : Nat) (G : KT1 R) (v3 : GV) (h : Heap) : Option R := G .ret v3 h
theorem n3_eq (G : KT1 R) (σ : GS) (h : Heap) : KC k 18 c3 σ h (fun x σ h => G x (σ 2) h) = n3 k G (σ 3) h := by kernel_rfl
noncomputable def c4 : Code := cL c2
noncomputable def c5 : Code := cR c4
noncomputable def c6 : Code := cL c5
noncomputable def c7 : Code := cL c6
noncomputable def c8 : Code := cR c7
noncomputable def c9 : Code := cR c8
noncomputable def c10 : Code := cR c9
@[simp] def n10 {R : Type} (k : Nat) (G : KT5 R) (v0 v2 v3 v6 v7 : GV) (h : Heap) : Option R := (kbin .add v7 (.int .i64 1)).bind fun v16 => G .nrm v0 v2 v3 v6 v16 h
theorem n10_eq (G : KT5 R) (σ : GS) (h : Heap) : KC k 18 c10 σ h (fun x σ h => G x (σ 0) (σ 2) (σ 3) (σ 6) (σ 7) h) = n10 k G (σ 0) (σ 2) (σ 3) (σ 6) (σ 7) h := by kernel_rfl
noncomputable def c11 : Code := cL c9
noncomputable def c12 : Code := cL c11
@[simp] def n12 {R : Type} (k : Nat) (G : KT5 R) (v0 v2 v3 v6 v7 : GV) (h : Heap) : Option R := (kbyte v0 v7).bind fun v13 => (kconvI .i64 v13).bind fun v14 => (kN NN fn.impl_Mix [v3, v14] h).bind fun v15 => G .nrm v0 v2 v15 v6 v7 h
theorem n12_eq (G : KT5 R) (σ : GS) (h : Heap) : KC k 18 c12 σ h (fun x σ h => G x (σ 0) (σ 2) (σ 3) (σ 6) (σ 7) h) = n12 k G (σ 0) (σ 2) (σ 3) (σ 6) (σ 7) h := by kernel_rfl
@[simp] def n11 (G : KT5 R) (v0 v2 v3 v6 v7 : GV) (h : Heap) : Option R := n12 k (fun x v0 v2 v3 v6 v7 h => kb 1 x fun x => G x v0 v2 v3 v6 v7 h) v0 v2 v3 v6 v7 h
theorem n11_eq (G : KT5 R) (σ : GS) (h : Heap) : KC k 18 c11 σ h (fun x σ h => G x (σ 0) (σ 2) (σ 3) (σ 6) (σ 7) h) = n11 k G (σ 0) (σ 2) (σ 3) (σ 6) (σ 7) h := (kblock_eq (a := c12) rfl).trans (n12_eq k (fun x v0 v2 v3 v6 v7 h => kb 1 x fun x => G x v0 v2 v3 v6 v7 h) σ h)
@[simp] def n9 (G : KT5 R) (v0 v2 v3 v6 v7 : GV) (h : Heap) : Option R := n11 k (fun x v0 v2 v3 v6 v7 h => kx x (n10 k G v0 v2 v3 v6 v7 h) (G x v0 v2 v3 v6 v7 h)) v0 v2 v3 v6 v7 h
theorem n9_eq (G : KT5 R) (σ : GS) (h : Heap) : KC k 18 c9 σ h (fun x σ h => G x (σ 0) (σ 2) (σ 3) (σ 6) (σ 7) h) = n9 k G (σ 0) (σ 2) (σ 3) (σ 6) (σ 7) h := (kseq (b := c10) rfl (fun σ h => n10_eq k G σ h)).trans (n11_eq k (fun x v0 v2 v3 v6 v7 h => kx x (n10 k G v0 v2 v3 v6 v7 h) (G x v0 v2 v3 v6 v7 h)) σ h)
noncomputable def c13 : Code := cL c8
@[simp] def n8 (G : KT5 R) (v0 v2 v3 v6 v7 v8 : GV) (h : Heap) : Option R := kcond v8 (n9 k G v0 v2 v3 v6 v7 h) (G (.ext 0) v0 v2 v3 v6 v7 h)
theorem n8_eq (G : KT5 R) (σ : GS) (h : Heap) : KC k 18 c8 σ h (fun x σ h => G x (σ 0) (σ 2) (σ 3) (σ 6) (σ 7) h) = n8 k G (σ 0) (σ 2) (σ 3) (σ 6) (σ 7) (σ 8) h := (kseq (a := c13) (b := c9) rfl (fun σ h => n9_eq k G σ h)).trans (by kernel_rfl)
noncomputable def c14 : Code := cL c7
@[simp] def n7 (G : KT5 R) (v0 v2 v3 v6 v7 : GV) (h : Heap) : Option R := (kbin .lss v7 v6).bind fun v8 => n8 k G v0 v2 v3 v6 v7 v8 h
theorem n7_eq (G : KT5 R) (σ : GS) (h : Heap) : KC k 18 c7 σ h (fun x σ h => G x (σ 0) (σ 2) (σ 3) (σ 6) (σ 7) h) = n7 k G (σ 0) (σ 2) (σ 3) (σ 6) (σ 7) h := (kseq (a := c14) (b := c8) rfl (fun σ h => n8_eq k G σ h)).trans (by kernel_rfl)
def l6 {R : Type} (k : Nat) (G : KT2 R) : Nat → GV → GV → GV → GV → GV → Heap → Option R
  | 0, _, _, _, _, _, _ => none
  | r + 1, v0, v2, v3, v6, v7, h => n7 k (fun x v0 v2 v3 v6 v7 h => kx x (l6 k G r v0 v2 v3 v6 v7 h) (G x v2 v3 h)) v0 v2 v3 v6 v7 h
theorem l6_eq {R : Type} (k : Nat) (G : KT2 R) : ∀ (r : Nat) (σ : GS) (h : Heap), kloop (fun σ h K => KC k 18 c7 σ h K) r σ h (fun x σ h => G x (σ 2) (σ 3) h) = l6 k G r (σ 0) (σ 2) (σ 3) (σ 6) (σ 7) h
  | 0, _, _ => rfl
  | r + 1, σ, h => (kloop_eq (fun σ h => l6_eq k G r σ h)).trans (n7_eq k (fun x v0 v2 v3 v6 v7 h => kx x (l6 k G r v0 v2 v3 v6 v7 h) (G x v2 v3 h)) σ h)
@[simp] def n6 (G : KT2 R) (v0 v2 v3 v6 v7 : GV) (h : Heap) : Option R := l6 k G k v0 v2 v3 v6 v7 h
theorem n6_eq (G : KT2 R) (σ : GS) (h : Heap) : KC k 18 c6 σ h (fun x σ h => G x (σ 2) (σ 3) h) = n6 k G (σ 0) (σ 2) (σ 3) (σ 6) (σ 7) h := (kloopc_eq (a := c7) rfl).trans (l6_eq k G k σ h)
@[simp] def n5 (G : KT2 R) (v0 v2 v3 v6 v7 : GV) (h : Heap) : Option R := n6 k (fun x v2 v3 h => kb 0 x fun x => G x v2 v3 h) v0 v2 v3 v6 v7 h
theorem n5_eq (G : KT2 R) (σ : GS) (h : Heap) : KC k 18 c5 σ h (fun x σ h => G x (σ 2) (σ 3) h) = n5 k G (σ 0) (σ 2) (σ 3) (σ 6) (σ 7) h := (kblock_eq (a := c6) rfl).trans (n6_eq k (fun x v2 v3 h => kb 0 x fun x => G x v2 v3 h) σ h)
noncomputable def c15 : Code := cL c4
@[simp] def n4 (G : KT2 R) (v0 v2 v3 : GV) (h : Heap) : Option R := (klenS v0).bind fun v6 => n5 k G v0 v2 v3 v6 (.int .i64 0) h
theorem n4_eq (G : KT2 R) (σ : GS) (h : Heap) : KC k 18 c4 σ h (fun x σ h => G x (σ 2) (σ 3) h) = n4 k G (σ 0) (σ 2) (σ 3) h := (kseq (a := c15) (b := c5) rfl (fun σ h => n5_eq k G σ h)).trans (by kernel_rfl)
@[simp] def n2 (G : KT1 R) (v0 v2 v3 : GV) (h : Heap) : Option R := n4 k (fun x v2 v3 h => kx x (n3 k G v3 h) (G x v2 h)) v0 v2 v3 h
theorem n2_eq (G : KT1 R) (σ : GS) (h : Heap) : KC k 18 c2 σ h (fun x σ h => G x (σ 2) h) = n2 k G (σ 0) (σ 2) (σ 3) h := (kseq (b := c3) rfl (fun σ h => n3_eq k G σ h)).trans (n4_eq k (fun x v2 v3 h => kx x (n3 k G v3 h) (G x v2 h)) σ h)
noncomputable def c16 : Code := cL c1
@[simp] def n1 (G : KT1 R) (v0 v2 : GV) (h : Heap) : Option R := n2 k G v0 v2 (.int .i64 2) h
theorem n1_eq (G : KT1 R) (σ : GS) (h : Heap) : KC k 18 c1 σ h (fun x σ h => G x (σ 2) h) = n1 k G (σ 0) (σ 2) h := (kseq (a := c16) (b := c2) rfl (fun σ h => n2_eq k G σ h)).trans (by kernel_rfl)
noncomputable def c17 : Code := cL c0
@[simp] def n0 (G : KT1 R) (v0 : GV) (h : Heap) : Option R := n1 k G v0 (.int .i64 0) h
theorem n0_eq (G : KT1 R) (σ : GS) (h : Heap) : KC k 18 c0 σ h (fun x σ h => G x (σ 2) h) = n0 k G (σ 0) h := (kseq (a := c17) (b := c1) rfl (fun σ h => n1_eq k G σ h)).trans (by kernel_rfl)
def run {R : Type} (k : Nat) (a0 : GV) (h : Heap) (fin : GV → Heap → Option R) : Option R := n0 k (fun x v2 h => kend x (fin v2 h)) a0 h
theorem run_eq {R : Type} (k : Nat) (a0 : GV) (h : Heap) (fin : GV → Heap → Option R) : kfun PP cfg NN HH k fn.impl_Sum [a0] h fin = run k a0 h fin := (kfun_eq (nt := 18) (c := c0) (show PP.funcs[fn.impl_Sum]? = some Tryd.f50 by kernel_rfl) (by kernel_rfl) (by kernel_rfl) (fun x σ h => by cases x <;> kernel_rfl)).trans (n0_eq k (fun x v2 h => kend x (fin v2 h)) _ h)
theorem gives {k : Nat} {a0 : GV} {v : GV} (e : run k a0 [] finN = some v) : NN fn.impl_Sum [a0] = some v := nω_of (by kernel_rfl) ((run_eq k a0 [] finN).trans e)
end S.impl_Sum
/-! impl_decimal -/
namespace S.impl_decimal
noncomputable def c0 : Code := bodyOf Tryd.f68
@[simp] def n0 {R : Type} (k : Nat) (G : KT1 R) (v0 : GV) (h : Heap) : Option R := (kN NN fn.strconv_FormatInt [v0, (.int .i64 10)] h).bind fun v4 => G .ret v4 h
theorem n0_eq (G : KT1 R) (σ : GS) (h : Heap) : KC k 5 c0 σ h (fun x σ h => G x (σ 2) h) = n0 k G (σ 0) h := by kernel_rfl
def run {R : Type} (k : Nat) (a0 : GV) (h : Heap) (fin : GV → Heap → Option R) : Option R := n0 k (fun x v2 h => kend x (fin v2 h)) a0 h
theorem run_eq {R : Type} (k : Nat) (a0 : GV) (h : Heap) (fin : GV → Heap → Option R) : kfun PP cfg NN HH k fn.impl_decimal [a0] h fin = run k a0 h fin := (kfun_eq (nt := 5) (c := c0) (show PP.funcs[fn.impl_decimal]? = some Tryd.f68 by kernel_rfl) (by kernel_rfl) (by kernel_rfl) (fun x σ h => by cases x <;> kernel_rfl)).trans (n0_eq k (fun x v2 h => kend x (fin v2 h)) _ h)
theorem gives {k : Nat} {a0 : GV} {v : GV} (e : run k a0 [] finN = some v) : NN fn.impl_decimal [a0] = some v := nω_of (by kernel_rfl) ((run_eq k a0 [] finN).trans e)
end S.impl_decimal
/-! spec_Mix -/
namespace S.spec_Mix
noncomputable def c0 : Code := bodyOf Tryd.f39
noncomputable def c1 : Code := cR c0
noncomputable def c2 : Code := cR c1
noncomputable def c3 : Code := cR c2
@[simp] def n3 {R : Type} (k : Nat) (G : KT1 R) (v5 : GV) (h : Heap) : Option R := G .ret v5 h
theorem n3_eq (G : KT1 R) (σ : GS) (h : Heap) : KC k 23 c3 σ h (fun x σ h => G x (σ 4) h) = n3 k G (σ 5) h := by kernel_rfl
noncomputable def c4 : Code := cL c2
noncomputable def c5 : Code := cR c4
noncomputable def c6 : Code := cL c5
noncomputable def c7 : Code := cL c6
noncomputable def c8 : Code := cR c7
noncomputable def c9 : Code := cR c8
@[simp] def n9 {R : Type} (k : Nat) (G : KT4 R) (v1 v4 v5 v6 : GV) (h : Heap) : Option R := (kbin .add v6 (.int .i64 1)).bind fun v13 => G .nrm v1 v4 v5 v13 h
theorem n9_eq (G : KT4 R) (σ : GS) (h : Heap) : KC k 23 c9 σ h (fun x σ h => G x (σ 1) (σ 4) (σ 5) (σ 6) h) = n9 k G (σ 1) (σ 4) (σ 5) (σ 6) h := by kernel_rfl
noncomputable def c10 : Code := cL c8
noncomputable def c11 : Code := cL c10
@[simp] def n11 {R : Type} (k : Nat) (G : KT4 R) (v1 v4 v5 v6 : GV) (h : Heap) : Option R := (kbin .mul v5 (.int .i64 48271)).bind fun v15 => (kN NN fn.spec_l1Max [(.int .i64 0), v1] h).bind fun v17 => (kbin .rem v17 (.int .i64 2147483647)).bind fun v18 => (kbin .add v15 v18).bind fun v19 => (kbin .add v19 (.int .i64 11)).bind fun v20 => (kbin .rem v20 (.int .i64 2147483647)).bind fun v21 => G .nrm v1 v4 v21 v6 h
theorem n11_eq (G : KT4 R) (σ : GS) (h : Heap) : KC k 23 c11 σ h (fun x σ h => G x (σ 1) (σ 4) (σ 5) (σ 6) h) = n11 k G (σ 1) (σ 4) (σ 5) (σ 6) h := by kernel_rfl
@[simp] def n10 (G : KT4 R) (v1 v4 v5 v6 : GV) (h : Heap) : Option R := n11 k (fun x v1 v4 v5 v6 h => kb 1 x fun x => G x v1 v4 v5 v6 h) v1 v4 v5 v6 h
theorem n10_eq (G : KT4 R) (σ : GS) (h : Heap) : KC k 23 c10 σ h (fun x σ h => G x (σ 1) (σ 4) (σ 5) (σ 6) h) = n10 k G (σ 1) (σ 4) (σ 5) (σ 6) h := (kblock_eq (a := c11) rfl).trans (n11_eq k (fun x v1 v4 v5 v6 h => kb 1 x fun x => G x v1 v4 v5 v6 h) σ h)
@[simp] def n8 (G : KT4 R) (v1 v4 v5 v6 : GV) (h : Heap) : Option R := n10 k (fun x v1 v4 v5 v6 h => kx x (n9 k G v1 v4 v5 v6 h) (G x v1 v4 v5 v6 h)) v1 v4 v5 v6 h
theorem n8_eq (G : KT4 R) (σ : GS) (h : Heap) : KC k 23 c8 σ h (fun x σ h => G x (σ 1) (σ 4) (σ 5) (σ 6) h) = n8 k G (σ 1) (σ 4) (σ 5) (σ 6) h := (kseq (b := c9) rfl (fun σ h => n9_eq k G σ h)).trans (n10_eq k (fun x v1 v4 v5 v6 h => kx x (n9 k G v1 v4 v5 v6 h) (G x v1 v4 v5 v6 h)) σ h)
noncomputable def c12 : Code := cL c7
@[simp] def n7 (G : KT4 R) (v1 v4 v5 v6 : GV) (h : Heap) : Option R := (kbin .lss v6 (.int .i64 4)).bind fun v11 => kcond v11 (n8 k G v1 v4 v5 v6 h) (G (.ext 0) v1 v4 v5 v6 h)
theorem n7_eq (G : KT4 R) (σ : GS) (h : Heap) : KC k 23 c7 σ h (fun x σ h => G x (σ 1) (σ 4) (σ 5) (σ 6) h) = n7 k G (σ 1) (σ 4) (σ 5) (σ 6) h := (kseq (a := c12) (b := c8) rfl (fun σ h => n8_eq k G σ h)).trans (by kernel_rfl)
def l6 {R : Type} (k : Nat) (G : KT2 R) : Nat → GV → GV → GV → GV → Heap → Option R
  | 0, _, _, _, _, _ => none
  | r + 1, v1, v4, v5, v6, h => n7 k (fun x v1 v4 v5 v6 h => kx x (l6 k G r v1 v4 v5 v6 h) (G x v4 v5 h)) v1 v4 v5 v6 h
theorem l6_eq {R : Type} (k : Nat) (G : KT2 R) : ∀ (r : Nat) (σ : GS) (h : Heap), kloop (fun σ h K => KC k 23 c7 σ h K) r σ h (fun x σ h => G x (σ 4) (σ 5) h) = l6 k G r (σ 1) (σ 4) (σ 5) (σ 6) h
  | 0, _, _ => rfl
  | r + 1, σ, h => (kloop_eq (fun σ h => l6_eq k G r σ h)).trans (n7_eq k (fun x v1 v4 v5 v6 h => kx x (l6 k G r v1 v4 v5 v6 h) (G x v4 v5 h)) σ h)
@[simp] def n6 (G : KT2 R) (v1 v4 v5 v6 : GV) (h : Heap) : Option R := l6 k G k v1 v4 v5 v6 h
theorem n6_eq (G : KT2 R) (σ : GS) (h : Heap) : KC k 23 c6 σ h (fun x σ h => G x (σ 4) (σ 5) h) = n6 k G (σ 1) (σ 4) (σ 5) (σ 6) h := (kloopc_eq (a := c7) rfl).trans (l6_eq k G k σ h)
@[simp] def n5 (G : KT2 R) (v1 v4 v5 v6 : GV) (h : Heap) : Option R := n6 k (fun x v4 v5 h => kb 0 x fun x => G x v4 v5 h) v1 v4 v5 v6 h
theorem n5_eq (G : KT2 R) (σ : GS) (h : Heap) : KC k 23 c5 σ h (fun x σ h => G x (σ 4) (σ 5) h) = n5 k G (σ 1) (σ 4) (σ 5) (σ 6) h := (kblock_eq (a := c6) rfl).trans (n6_eq k (fun x v4 v5 h => kb 0 x fun x => G x v4 v5 h) σ h)
noncomputable def c13 : Code := cL c4
@[simp] def n4 (G : KT2 R) (v1 v4 v5 : GV) (h : Heap) : Option R := n5 k G v1 v4 v5 (.int .i64 0) h
theorem n4_eq (G : KT2 R) (σ : GS) (h : Heap) : KC k 23 c4 σ h (fun x σ h => G x (σ 4) (σ 5) h) = n4 k G (σ 1) (σ 4) (σ 5) h := (kseq (a := c13) (b := c5) rfl (fun σ h => n5_eq k G σ h)).trans (by kernel_rfl)
@[simp] def n2 (G : KT1 R) (v1 v4 v5 : GV) (h : Heap) : Option R := n4 k (fun x v4 v5 h => kx x (n3 k G v5 h) (G x v4 h)) v1 v4 v5 h
theorem n2_eq (G : KT1 R) (σ : GS) (h : Heap) : KC k 23 c2 σ h (fun x σ h => G x (σ 4) h) = n2 k G (σ 1) (σ 4) (σ 5) h := (kseq (b := c3) rfl (fun σ h => n3_eq k G σ h)).trans (n4_eq k (fun x v4 v5 h => kx x (n3 k G v5 h) (G x v4 h)) σ h)
noncomputable def c14 : Code := cL c1
@[simp] def n1 (G : KT1 R) (v0 v1 v4 : GV) (h : Heap) : Option R := (kN NN fn.spec_l1Max [(.int .i64 0), v0] h).bind fun v8 => (kbin .rem v8 (.int .i64 2147483647)).bind fun v9 => n2 k G v1 v4 v9 h
theorem n1_eq (G : KT1 R) (σ : GS) (h : Heap) : KC k 23 c1 σ h (fun x σ h => G x (σ 4) h) = n1 k G (σ 0) (σ 1) (σ 4) h := (kseq (a := c14) (b := c2) rfl (fun σ h => n2_eq k G σ h)).trans (by kernel_rfl)
noncomputable def c15 : Code := cL c0
@[simp] def n0 (G : KT1 R) (v0 v1 : GV) (h : Heap) : Option R := n1 k G v0 v1 (.int .i64 0) h
theorem n0_eq (G : KT1 R) (σ : GS) (h : Heap) : KC k 23 c0 σ h (fun x σ h => G x (σ 4) h) = n0 k G (σ 0) (σ 1) h := (kseq (a := c15) (b := c1) rfl (fun σ h => n1_eq k G σ h)).trans (by kernel_rfl)
def run {R : Type} (k : Nat) (a0 : GV) (a1 : GV) (h : Heap) (fin : GV → Heap → Option R) : Option R := n0 k (fun x v4 h => kend x (fin v4 h)) a0 a1 h
theorem run_eq {R : Type} (k : Nat) (a0 : GV) (a1 : GV) (h : Heap) (fin : GV → Heap → Option R) : kfun PP cfg NN HH k fn.spec_Mix [a0, a1] h fin = run k a0 a1 h fin := (kfun_eq (nt := 23) (c := c0) (show PP.funcs[fn.spec_Mix]? = some Tryd.f39 by kernel_rfl) (by kernel_rfl) (by kernel_rfl) (fun x σ h => by cases x <;> kernel_rfl)).trans (n0_eq k (fun x v4 h => kend x (fin v4 h)) _ h)
theorem gives {k : Nat} {a0 : GV} {a1 : GV} {v : GV} (e : run k a0 a1 [] finN = some v) : NN fn.spec_Mix [a0, a1] = some v := nω_of (by kernel_rfl) ((run_eq k a0 a1 [] finN).trans e)
end S.spec_Mix
/-! spec_Sum -/
namespace S.spec_Sum
noncomputable def c0 : Code := bodyOf Tryd.f51
noncomputable def c1 : Code := cR c0
noncomputable def c2 : Code := cR c1
noncomputable def c3 : Code := cR c2
@[simp] def n3 {R : Type} (k : Nat) (G : KT1 R) (v3 : GV) (h : Heap) : Option R := G .ret v3 h
theorem n3_eq (G : KT1 R) (σ : GS) (h : Heap) : KC k 18 c3 σ h (fun x σ h => G x (σ 2) h) = n3 k G (σ 3) h := by kernel_rfl
noncomputable def c4 : Code := cL c2
noncomputable def c5 : Code := cR c4
noncomputable def c6 : Code := cL c5
noncomputable def c7 : Code := cL c6
noncomputable def c8 : Code := cR c7
noncomputable def c9 : Code := cR c8
@[simp] def n9 {R : Type} (k : Nat) (G : KT4 R) (v0 v2 v3 v4 : GV) (h : Heap) : Option R := (kbin .add v4 (.int .i64 1)).bind fun v10 => G .nrm v0 v2 v3 v10 h
theorem n9_eq (G : KT4 R) (σ : GS) (h : Heap) : KC k 18 c9 σ h (fun x σ h => G x (σ 0) (σ 2) (σ 3) (σ 4) h) = n9 k G (σ 0) (σ 2) (σ 3) (σ 4) h := by kernel_rfl
noncomputable def c10 : Code := cL c8
noncomputable def c11 : Code := cL c10
@[simp] def n11 {R : Type} (k : Nat) (G : KT4 R) (v0 v2 v3 v4 : GV) (h : Heap) : Option R := (kbyte v0 v4).bind fun v14 => (kconvI .i64 v14).bind fun v15 => (kN NN fn.spec_Mix [v3, v15] h).bind fun v16 => G .nrm v0 v2 v16 v4 h
theorem n11_eq (G : KT4 R) (σ : GS) (h : Heap) : KC k 18 c11 σ h (fun x σ h => G x (σ 0) (σ 2) (σ 3) (σ 4) h) = n11 k G (σ 0) (σ 2) (σ 3) (σ 4) h := by kernel_rfl
@[simp] def n10 (G : KT4 R) (v0 v2 v3 v4 : GV) (h : Heap) : Option R := n11 k (fun x v0 v2 v3 v4 h => kb 1 x fun x => G x v0 v2 v3 v4 h) v0 v2 v3 v4 h
theorem n10_eq (G : KT4 R) (σ : GS) (h : Heap) : KC k 18 c10 σ h (fun x σ h => G x (σ 0) (σ 2) (σ 3) (σ 4) h) = n10 k G (σ 0) (σ 2) (σ 3) (σ 4) h := (kblock_eq (a := c11) rfl).trans (n11_eq k (fun x v0 v2 v3 v4 h => kb 1 x fun x => G x v0 v2 v3 v4 h) σ h)
@[simp] def n8 (G : KT4 R) (v0 v2 v3 v4 : GV) (h : Heap) : Option R := n10 k (fun x v0 v2 v3 v4 h => kx x (n9 k G v0 v2 v3 v4 h) (G x v0 v2 v3 v4 h)) v0 v2 v3 v4 h
theorem n8_eq (G : KT4 R) (σ : GS) (h : Heap) : KC k 18 c8 σ h (fun x σ h => G x (σ 0) (σ 2) (σ 3) (σ 4) h) = n8 k G (σ 0) (σ 2) (σ 3) (σ 4) h := (kseq (b := c9) rfl (fun σ h => n9_eq k G σ h)).trans (n10_eq k (fun x v0 v2 v3 v4 h => kx x (n9 k G v0 v2 v3 v4 h) (G x v0 v2 v3 v4 h)) σ h)
noncomputable def c12 : Code := cL c7
@[simp] def n7 (G : KT4 R) (v0 v2 v3 v4 : GV) (h : Heap) : Option R := (klenS v0).bind fun v7 => (kbin .lss v4 v7).bind fun v8 => kcond v8 (n8 k G v0 v2 v3 v4 h) (G (.ext 0) v0 v2 v3 v4 h)
theorem n7_eq (G : KT4 R) (σ : GS) (h : Heap) : KC k 18 c7 σ h (fun x σ h => G x (σ 0) (σ 2) (σ 3) (σ 4) h) = n7 k G (σ 0) (σ 2) (σ 3) (σ 4) h := (kseq (a := c12) (b := c8) rfl (fun σ h => n8_eq k G σ h)).trans (by kernel_rfl)
def l6 {R : Type} (k : Nat) (G : KT2 R) : Nat → GV → GV → GV → GV → Heap → Option R
  | 0, _, _, _, _, _ => none
  | r + 1, v0, v2, v3, v4, h => n7 k (fun x v0 v2 v3 v4 h => kx x (l6 k G r v0 v2 v3 v4 h) (G x v2 v3 h)) v0 v2 v3 v4 h
theorem l6_eq {R : Type} (k : Nat) (G : KT2 R) : ∀ (r : Nat) (σ : GS) (h : Heap), kloop (fun σ h K => KC k 18 c7 σ h K) r σ h (fun x σ h => G x (σ 2) (σ 3) h) = l6 k G r (σ 0) (σ 2) (σ 3) (σ 4) h
  | 0, _, _ => rfl
  | r + 1, σ, h => (kloop_eq (fun σ h => l6_eq k G r σ h)).trans (n7_eq k (fun x v0 v2 v3 v4 h => kx x (l6 k G r v0 v2 v3 v4 h) (G x v2 v3 h)) σ h)
@[simp] def n6 (G : KT2 R) (v0 v2 v3 v4 : GV) (h : Heap) : Option R := l6 k G k v0 v2 v3 v4 h
theorem n6_eq (G : KT2 R) (σ : GS) (h : Heap) : KC k 18 c6 σ h (fun x σ h => G x (σ 2) (σ 3) h) = n6 k G (σ 0) (σ 2) (σ 3) (σ 4) h := (kloopc_eq (a := c7) rfl).trans (l6_eq k G k σ h)
@[simp] def n5 (G : KT2 R) (v0 v2 v3 v4 : GV) (h : Heap) : Option R := n6 k (fun x v2 v3 h => kb 0 x fun x => G x v2 v3 h) v0 v2 v3 v4 h
theorem n5_eq (G : KT2 R) (σ : GS) (h : Heap) : KC k 18 c5 σ h (fun x σ h => G x (σ 2) (σ 3) h) = n5 k G (σ 0) (σ 2) (σ 3) (σ 4) h := (kblock_eq (a := c6) rfl).trans (n6_eq k (fun x v2 v3 h => kb 0 x fun x => G x v2 v3 h) σ h)
noncomputable def c13 : Code := cL c4
@[simp] def n4 (G : KT2 R) (v0 v2 v3 : GV) (h : Heap) : Option R := n5 k G v0 v2 v3 (.int .i64 0) h
theorem n4_eq (G : KT2 R) (σ : GS) (h : Heap) : KC k 18 c4 σ h (fun x σ h => G x (σ 2) (σ 3) h) = n4 k G (σ 0) (σ 2) (σ 3) h := (kseq (a := c13) (b := c5) rfl (fun σ h => n5_eq k G σ h)).trans (by kernel_rfl)
@[simp] def n2 (G : KT1 R) (v0 v2 v3 : GV) (h : Heap) : Option R := n4 k (fun x v2 v3 h => kx x (n3 k G v3 h) (G x v2 h)) v0 v2 v3 h
theorem n2_eq (G : KT1 R) (σ : GS) (h : Heap) : KC k 18 c2 σ h (fun x σ h => G x (σ 2) h) = n2 k G (σ 0) (σ 2) (σ 3) h := (kseq (b := c3) rfl (fun σ h => n3_eq k G σ h)).trans (n4_eq k (fun x v2 v3 h => kx x (n3 k G v3 h) (G x v2 h)) σ h)
noncomputable def c14 : Code := cL c1
@[simp] def n1 (G : KT1 R) (v0 v2 : GV) (h : Heap) : Option R := n2 k G v0 v2 (.int .i64 2) h
theorem n1_eq (G : KT1 R) (σ : GS) (h : Heap) : KC k 18 c1 σ h (fun x σ h => G x (σ 2) h) = n1 k G (σ 0) (σ 2) h := (kseq (a := c14) (b := c2) rfl (fun σ h => n2_eq k G σ h)).trans (by kernel_rfl)
noncomputable def c15 : Code := cL c0
@[simp] def n0 (G : KT1 R) (v0 : GV) (h : Heap) : Option R := n1 k G v0 (.int .i64 0) h
theorem n0_eq (G : KT1 R) (σ : GS) (h : Heap) : KC k 18 c0 σ h (fun x σ h => G x (σ 2) h) = n0 k G (σ 0) h := (kseq (a := c15) (b := c1) rfl (fun σ h => n1_eq k G σ h)).trans (by kernel_rfl)
def run {R : Type} (k : Nat) (a0 : GV) (h : Heap) (fin : GV → Heap → Option R) : Option R := n0 k (fun x v2 h => kend x (fin v2 h)) a0 h
theorem run_eq {R : Type} (k : Nat) (a0 : GV) (h : Heap) (fin : GV → Heap → Option R) : kfun PP cfg NN HH k fn.spec_Sum [a0] h fin = run k a0 h fin := (kfun_eq (nt := 18) (c := c0) (show PP.funcs[fn.spec_Sum]? = some Tryd.f51 by kernel_rfl) (by kernel_rfl) (by kernel_rfl) (fun x σ h => by cases x <;> kernel_rfl)).trans (n0_eq k (fun x v2 h => kend x (fin v2 h)) _ h)
theorem gives {k : Nat} {a0 : GV} {v : GV} (e : run k a0 [] finN = some v) : NN fn.spec_Sum [a0] = some v := nω_of (by kernel_rfl) ((run_eq k a0 [] finN).trans e)
end S.spec_Sum
/-! spec_l1Max -/
namespace S.spec_l1Max
noncomputable def c0 : Code := bodyOf Tryd.f95
@[simp] def n0 {R : Type} (k : Nat) (G : KT1 R) (v0 v1 : GV) (h : Heap) : Option R := (kbin .gtr v0 v1).bind fun v7 => kcond v7 (G .ret v0 h) (G .ret v1 h)
theorem n0_eq (G : KT1 R) (σ : GS) (h : Heap) : KC k 10 c0 σ h (fun x σ h => G x (σ 4) h) = n0 k G (σ 0) (σ 1) h := by kernel_rfl
def run {R : Type} (k : Nat) (a0 : GV) (a1 : GV) (h : Heap) (fin : GV → Heap → Option R) : Option R := n0 k (fun x v4 h => kend x (fin v4 h)) a0 a1 h
theorem run_eq {R : Type} (k : Nat) (a0 : GV) (a1 : GV) (h : Heap) (fin : GV → Heap → Option R) : kfun PP cfg NN HH k fn.spec_l1Max [a0, a1] h fin = run k a0 a1 h fin := (kfun_eq (nt := 10) (c := c0) (show PP.funcs[fn.spec_l1Max]? = some Tryd.f95 by kernel_rfl) (by kernel_rfl) (by kernel_rfl) (fun x σ h => by cases x <;> kernel_rfl)).trans (n0_eq k (fun x v4 h => kend x (fin v4 h)) _ h)
theorem gives {k : Nat} {a0 : GV} {a1 : GV} {v : GV} (e : run k a0 a1 [] finN = some v) : NN fn.spec_l1Max [a0, a1] = some v := nω_of (by kernel_rfl) ((run_eq k a0 a1 [] finN).trans e)
end S.spec_l1Max
/-! spec_l3Int -/
namespace S.spec_l3Int
noncomputable def c0 : Code := bodyOf Tryd.f67
noncomputable def c1 : Code := cR c0
noncomputable def c2 : Code := cR c1
noncomputable def c3 : Code := cR c2
noncomputable def c4 : Code := cR c3
noncomputable def c5 : Code := cR c4
@[simp] def n5 {R : Type} (k : Nat) (G : KT1 R) (v3 : GV) (h : Heap) : Option R := G .ret v3 h
theorem n5_eq (G : KT1 R) (σ : GS) (h : Heap) : KC k 33 c5 σ h (fun x σ h => G x (σ 2) h) = n5 k G (σ 3) h := by kernel_rfl
noncomputable def c6 : Code := cL c4
@[simp] def n4 (G : KT1 R) (v2 v3 v4 : GV) (h : Heap) : Option R := kcond v4 ((kbin .add (.str { data := #[45] }) v3).bind fun v31 => n5 k G v31 h) (n5 k G v3 h)
theorem n4_eq (G : KT1 R) (σ : GS) (h : Heap) : KC k 33 c4 σ h (fun x σ h => G x (σ 2) h) = n4 k G (σ 2) (σ 3) (σ 4) h := (kseq (a := c6) (b := c5) rfl (fun σ h => n5_eq k G σ h)).trans (by kernel_rfl)
noncomputable def c7 : Code := cL c3
noncomputable def c8 : Code := cL c7
noncomputable def c9 : Code := cL c8
noncomputable def c10 : Code := cR c9
noncomputable def c11 : Code := cL c10
noncomputable def c12 : Code := cR c11
noncomputable def c13 : Code := cR c12
@[simp] def n13 {R : Type} (k : Nat) (G : KT4 R) (v0 v2 v3 v4 v5 : GV) (h : Heap) : Option R := (kbin .add (.int .i64 48) v5).bind fun v21 => (kconvI .u8 v21).bind fun v22 => (gfill (fun i => some (i * 1, 1)) (zeros [(.int .u8 0)] 1) [(0, v22)]).bind fun c => kbs 1 1 c h fun v23 h => (kbstr h v23).bind fun v24 => (kbin .add v24 v3).bind fun v26 => (kbin .quo v0 (.int .i64 10)).bind fun v28 => G .nrm v28 v2 v26 v4 h
theorem n13_eq (G : KT4 R) (σ : GS) (h : Heap) : KC k 33 c13 σ h (fun x σ h => G x (σ 0) (σ 2) (σ 3) (σ 4) h) = n13 k G (σ 0) (σ 2) (σ 3) (σ 4) (σ 5) h := by kernel_rfl
noncomputable def c14 : Code := cL c12
@[simp] def n12 (G : KT4 R) (v0 v2 v3 v4 v5 : GV) (h : Heap) : Option R := (kbin .lss v5 (.int .i64 0)).bind fun v17 => kcond v17 ((kun .neg v5).bind fun v19 => n13 k G v0 v2 v3 v4 v19 h) (n13 k G v0 v2 v3 v4 v5 h)
theorem n12_eq (G : KT4 R) (σ : GS) (h : Heap) : KC k 33 c12 σ h (fun x σ h => G x (σ 0) (σ 2) (σ 3) (σ 4) h) = n12 k G (σ 0) (σ 2) (σ 3) (σ 4) (σ 5) h := (kseq (a := c14) (b := c13) rfl (fun σ h => n13_eq k G σ h)).trans (by kernel_rfl)
noncomputable def c15 : Code := cL c11
@[simp] def n11 (G : KT4 R) (v0 v2 v3 v4 : GV) (h : Heap) : Option R := (kbin .rem v0 (.int .i64 10)).bind fun v15 => n12 k G v0 v2 v3 v4 v15 h
theorem n11_eq (G : KT4 R) (σ : GS) (h : Heap) : KC k 33 c11 σ h (fun x σ h => G x (σ 0) (σ 2) (σ 3) (σ 4) h) = n11 k G (σ 0) (σ 2) (σ 3) (σ 4) h := (kseq (a := c15) (b := c12) rfl (fun σ h => n12_eq k G σ h)).trans (by kernel_rfl)
@[simp] def n10 (G : KT4 R) (v0 v2 v3 v4 : GV) (h : Heap) : Option R := n11 k (fun x v0 v2 v3 v4 h => kb 1 x fun x => G x v0 v2 v3 v4 h) v0 v2 v3 v4 h
theorem n10_eq (G : KT4 R) (σ : GS) (h : Heap) : KC k 33 c10 σ h (fun x σ h => G x (σ 0) (σ 2) (σ 3) (σ 4) h) = n10 k G (σ 0) (σ 2) (σ 3) (σ 4) h := (kblock_eq (a := c11) rfl).trans (n11_eq k (fun x v0 v2 v3 v4 h => kb 1 x fun x => G x v0 v2 v3 v4 h) σ h)
noncomputable def c16 : Code := cL c9
noncomputable def c17 : Code := cR c16
@[simp] def n17 {R : Type} (k : Nat) (G : KT4 R) (v0 v2 v3 v4 v13 : GV) (h : Heap) : Option R := kcond v13 (G .nrm v0 v2 v3 v4 h) (G (.ext 0) v0 v2 v3 v4 h)
theorem n17_eq (G : KT4 R) (σ : GS) (h : Heap) : KC k 33 c17 σ h (fun x σ h => G x (σ 0) (σ 2) (σ 3) (σ 4) h) = n17 k G (σ 0) (σ 2) (σ 3) (σ 4) (σ 13) h := by kernel_rfl
noncomputable def c18 : Code := cL c16
noncomputable def o18 : Array Oper := cO c18
@[simp] def g18_2 {R : Type} (k : Nat) (G : KT5 R) (v0 v2 v3 v4 v10 v12 : GV) (h : Heap) : Option R := (kpick v10 (.bool true) v12).bind fun v13 => G .nrm v0 v2 v3 v4 v13 h
theorem g18_2_eq (G : KT5 R) (σ : GS) (h : Heap) : kgroups PP cfg NN HH 33 o18 [(none, [5])] σ h (fun σ h => G .nrm (σ 0) (σ 2) (σ 3) (σ 4) (σ 13) h) = g18_2 k G (σ 0) (σ 2) (σ 3) (σ 4) (σ 10) (σ 12) h := by kernel_rfl
@[simp] def g18_1 (G : KT5 R) (v0 v2 v3 v4 v10 : GV) (h : Heap) : Option R := bif tr false v10 then (kbin .neq v0 (.int .i64 0)).bind fun v12 => g18_2 k G v0 v2 v3 v4 v10 v12 h else g18_2 k G v0 v2 v3 v4 v10 .un h
theorem g18_1_eq (G : KT5 R) (σ : GS) (h : Heap) : kgroups PP cfg NN HH 33 o18 [(some (2, false), [3, 4]), (none, [5])] σ h (fun σ h => G .nrm (σ 0) (σ 2) (σ 3) (σ 4) (σ 13) h) = g18_1 k G (σ 0) (σ 2) (σ 3) (σ 4) (σ 10) h := (kgroups_cons (fun σ h => g18_2_eq k G σ h)).trans (by kernel_rfl)
@[simp] def g18_0 (G : KT5 R) (v0 v2 v3 v4 : GV) (h : Heap) : Option R := (kbin .eql v3 (.str { data := #[] })).bind fun v9 => g18_1 k G v0 v2 v3 v4 v9 h
theorem g18_0_eq (G : KT5 R) (σ : GS) (h : Heap) : kgroups PP cfg NN HH 33 o18 [(none, [0, 1, 2]), (some (2, false), [3, 4]), (none, [5])] σ h (fun σ h => G .nrm (σ 0) (σ 2) (σ 3) (σ 4) (σ 13) h) = g18_0 k G (σ 0) (σ 2) (σ 3) (σ 4) h := (kgroups_cons (fun σ h => g18_1_eq k G σ h)).trans (by kernel_rfl)
@[simp] def n18 (G : KT5 R) (v0 v2 v3 v4 : GV) (h : Heap) : Option R := g18_0 k G v0 v2 v3 v4 h
theorem n18_eq (G : KT5 R) (σ : GS) (h : Heap) : KC k 33 c18 σ h (fun x σ h => G x (σ 0) (σ 2) (σ 3) (σ 4) (σ 13) h) = n18 k G (σ 0) (σ 2) (σ 3) (σ 4) h := (kregion_eq (id := 3) (draw := false) (ops := o18) (gs := [(none, [0, 1, 2]), (some (2, false), [3, 4]), (none, [5])]) (by kernel_rfl) (by kernel_rfl) (by kernel_rfl)).trans (g18_0_eq k G σ h)
@[simp] def n16 (G : KT4 R) (v0 v2 v3 v4 : GV) (h : Heap) : Option R := n18 k (fun x v0 v2 v3 v4 v13 h => kx x (n17 k G v0 v2 v3 v4 v13 h) (G x v0 v2 v3 v4 h)) v0 v2 v3 v4 h
theorem n16_eq (G : KT4 R) (σ : GS) (h : Heap) : KC k 33 c16 σ h (fun x σ h => G x (σ 0) (σ 2) (σ 3) (σ 4) h) = n16 k G (σ 0) (σ 2) (σ 3) (σ 4) h := (kseq (b := c17) rfl (fun σ h => n17_eq k G σ h)).trans (n18_eq k (fun x v0 v2 v3 v4 v13 h => kx x (n17 k G v0 v2 v3 v4 v13 h) (G x v0 v2 v3 v4 h)) σ h)
@[simp] def n9 (G : KT4 R) (v0 v2 v3 v4 : GV) (h : Heap) : Option R := n16 k (fun x v0 v2 v3 v4 h => kx x (n10 k G v0 v2 v3 v4 h) (G x v0 v2 v3 v4 h)) v0 v2 v3 v4 h
theorem n9_eq (G : KT4 R) (σ : GS) (h : Heap) : KC k 33 c9 σ h (fun x σ h => G x (σ 0) (σ 2) (σ 3) (σ 4) h) = n9 k G (σ 0) (σ 2) (σ 3) (σ 4) h := (kseq (b := c10) rfl (fun σ h => n10_eq k G σ h)).trans (n16_eq k (fun x v0 v2 v3 v4 h => kx x (n10 k G v0 v2 v3 v4 h) (G x v0 v2 v3 v4 h)) σ h)
def l8 {R : Type} (k : Nat) (G : KT3 R) : Nat → GV → GV → GV → GV → Heap → Option R
  | 0, _, _, _, _, _ => none
  | r + 1, v0, v2, v3, v4, h => n9 k (fun x v0 v2 v3 v4 h => kx x (l8 k G r v0 v2 v3 v4 h) (G x v2 v3 v4 h)) v0 v2 v3 v4 h
theorem l8_eq {R : Type} (k : Nat) (G : KT3 R) : ∀ (r : Nat) (σ : GS) (h : Heap), kloop (fun σ h K => KC k 33 c9 σ h K) r σ h (fun x σ h => G x (σ 2) (σ 3) (σ 4) h) = l8 k G r (σ 0) (σ 2) (σ 3) (σ 4) h
  | 0, _, _ => rfl
  | r + 1, σ, h => (kloop_eq (fun σ h => l8_eq k G r σ h)).trans (n9_eq k (fun x v0 v2 v3 v4 h => kx x (l8 k G r v0 v2 v3 v4 h) (G x v2 v3 v4 h)) σ h)
@[simp] def n8 (G : KT3 R) (v0 v2 v3 v4 : GV) (h : Heap) : Option R := l8 k G k v0 v2 v3 v4 h
theorem n8_eq (G : KT3 R) (σ : GS) (h : Heap) : KC k 33 c8 σ h (fun x σ h => G x (σ 2) (σ 3) (σ 4) h) = n8 k G (σ 0) (σ 2) (σ 3) (σ 4) h := (kloopc_eq (a := c9) rfl).trans (l8_eq k G k σ h)
@[simp] def n7 (G : KT3 R) (v0 v2 v3 v4 : GV) (h : Heap) : Option R := n8 k (fun x v2 v3 v4 h => kb 0 x fun x => G x v2 v3 v4 h) v0 v2 v3 v4 h
theorem n7_eq (G : KT3 R) (σ : GS) (h : Heap) : KC k 33 c7 σ h (fun x σ h => G x (σ 2) (σ 3) (σ 4) h) = n7 k G (σ 0) (σ 2) (σ 3) (σ 4) h := (kblock_eq (a := c8) rfl).trans (n8_eq k (fun x v2 v3 v4 h => kb 0 x fun x => G x v2 v3 v4 h) σ h)
@[simp] def n3 (G : KT1 R) (v0 v2 v3 v4 : GV) (h : Heap) : Option R := n7 k (fun x v2 v3 v4 h => kx x (n4 k G v2 v3 v4 h) (G x v2 h)) v0 v2 v3 v4 h
theorem n3_eq (G : KT1 R) (σ : GS) (h : Heap) : KC k 33 c3 σ h (fun x σ h => G x (σ 2) h) = n3 k G (σ 0) (σ 2) (σ 3) (σ 4) h := (kseq (b := c4) rfl (fun σ h => n4_eq k G σ h)).trans (n7_eq k (fun x v2 v3 v4 h => kx x (n4 k G v2 v3 v4 h) (G x v2 h)) σ h)
noncomputable def c19 : Code := cL c2
@[simp] def n2 (G : KT1 R) (v0 v2 v3 : GV) (h : Heap) : Option R := (kbin .lss v0 (.int .i64 0)).bind fun v7 => n3 k G v0 v2 v3 v7 h
theorem n2_eq (G : KT1 R) (σ : GS) (h : Heap) : KC k 33 c2 σ h (fun x σ h => G x (σ 2) h) = n2 k G (σ 0) (σ 2) (σ 3) h := (kseq (a := c19) (b := c3) rfl (fun σ h => n3_eq k G σ h)).trans (by kernel_rfl)
noncomputable def c20 : Code := cL c1
@[simp] def n1 (G : KT1 R) (v0 v2 : GV) (h : Heap) : Option R := n2 k G v0 v2 (.str { data := #[] }) h
theorem n1_eq (G : KT1 R) (σ : GS) (h : Heap) : KC k 33 c1 σ h (fun x σ h => G x (σ 2) h) = n1 k G (σ 0) (σ 2) h := (kseq (a := c20) (b := c2) rfl (fun σ h => n2_eq k G σ h)).trans (by kernel_rfl)
noncomputable def c21 : Code := cL c0
@[simp] def n0 (G : KT1 R) (v0 : GV) (h : Heap) : Option R := n1 k G v0 (.str { data := #[] }) h
theorem n0_eq (G : KT1 R) (σ : GS) (h : Heap) : KC k 33 c0 σ h (fun x σ h => G x (σ 2) h) = n0 k G (σ 0) h := (kseq (a := c21) (b := c1) rfl (fun σ h => n1_eq k G σ h)).trans (by kernel_rfl)
def run {R : Type} (k : Nat) (a0 : GV) (h : Heap) (fin : GV → Heap → Option R) : Option R := n0 k (fun x v2 h => kend x (fin v2 h)) a0 h
theorem run_eq {R : Type} (k : Nat) (a0 : GV) (h : Heap) (fin : GV → Heap → Option R) : kfun PP cfg NN HH k fn.spec_l3Int [a0] h fin = run k a0 h fin := (kfun_eq (nt := 33) (c := c0) (show PP.funcs[fn.spec_l3Int]? = some Tryd.f67 by kernel_rfl) (by kernel_rfl) (by kernel_rfl) (fun x σ h => by cases x <;> kernel_rfl)).trans (n0_eq k (fun x v2 h => kend x (fin v2 h)) _ h)
theorem gives {k : Nat} {a0 : GV} {v : GV} (e : run k a0 [] finN = some v) : NN fn.spec_l3Int [a0] = some v := nω_of (by kernel_rfl) ((run_eq k a0 [] finN).trans e)
end S.spec_l3Int
/-! impl_in -/
namespace S.impl_in
noncomputable def c0 : Code := bodyOf Tryd.f104
noncomputable def c1 : Code := cR c0
noncomputable def c2 : Code := cR c1
@[simp] def n2 {R : Type} (k : Nat) (G : KT1 R) (v6 : GV) (h : Heap) : Option R := G .ret v6 h
theorem n2_eq (G : KT1 R) (σ : GS) (h : Heap) : KC k 15 c2 σ h (fun x σ h => G x (σ 6) h) = n2 k G (σ 6) h := by kernel_rfl
noncomputable def c3 : Code := cL c1
noncomputable def o3 : Array Oper := cO c3
@[simp] def g3_2 {R : Type} (k : Nat) (G : KT1 R) (v10 v13 : GV) (h : Heap) : Option R := (kpick v10 v13 (.bool false)).bind fun v14 => G .nrm v14 h
theorem g3_2_eq (G : KT1 R) (σ : GS) (h : Heap) : kgroups PP cfg NN HH 15 o3 [(none, [7, 8])] σ h (fun σ h => G .nrm (σ 6) h) = g3_2 k G (σ 10) (σ 13) h := by kernel_rfl
@[simp] def g3_1 (G : KT1 R) (v0 v2 v10 : GV) (h : Heap) : Option R := bif tr true v10 then (kbin .leq v0 v2).bind fun v13 => g3_2 k G v10 v13 h else g3_2 k G v10 .un h
theorem g3_1_eq (G : KT1 R) (σ : GS) (h : Heap) : kgroups PP cfg NN HH 15 o3 [(some (3, true), [4, 5, 6]), (none, [7, 8])] σ h (fun σ h => G .nrm (σ 6) h) = g3_1 k G (σ 0) (σ 2) (σ 10) h := (kgroups_cons (fun σ h => g3_2_eq k G σ h)).trans (by kernel_rfl)
@[simp] def g3_0 (G : KT1 R) (v0 v1 v2 : GV) (h : Heap) : Option R := (kbin .leq v1 v0).bind fun v9 => g3_1 k G v0 v2 v9 h
theorem g3_0_eq (G : KT1 R) (σ : GS) (h : Heap) : kgroups PP cfg NN HH 15 o3 [(none, [0, 1, 2, 3]), (some (3, true), [4, 5, 6]), (none, [7, 8])] σ h (fun σ h => G .nrm (σ 6) h) = g3_0 k G (σ 0) (σ 1) (σ 2) h := (kgroups_cons (fun σ h => g3_1_eq k G σ h)).trans (by kernel_rfl)
@[simp] def n3 (G : KT1 R) (v0 v1 v2 : GV) (h : Heap) : Option R := g3_0 k G v0 v1 v2 h
theorem n3_eq (G : KT1 R) (σ : GS) (h : Heap) : KC k 15 c3 σ h (fun x σ h => G x (σ 6) h) = n3 k G (σ 0) (σ 1) (σ 2) h := (kregion_eq (id := 1) (draw := false) (ops := o3) (gs := [(none, [0, 1, 2, 3]), (some (3, true), [4, 5, 6]), (none, [7, 8])]) (by kernel_rfl) (by kernel_rfl) (by kernel_rfl)).trans (g3_0_eq k G σ h)
@[simp] def n1 (G : KT1 R) (v0 v1 v2 : GV) (h : Heap) : Option R := n3 k (fun x v6 h => kx x (n2 k G v6 h) (G x v6 h)) v0 v1 v2 h
theorem n1_eq (G : KT1 R) (σ : GS) (h : Heap) : KC k 15 c1 σ h (fun x σ h => G x (σ 6) h) = n1 k G (σ 0) (σ 1) (σ 2) h := (kseq (b := c2) rfl (fun σ h => n2_eq k G σ h)).trans (n3_eq k (fun x v6 h => kx x (n2 k G v6 h) (G x v6 h)) σ h)
noncomputable def c4 : Code := cL c0
@[simp] def n0 (G : KT1 R) (v0 v1 v2 : GV) (h : Heap) : Option R := n1 k G v0 v1 v2 h
theorem n0_eq (G : KT1 R) (σ : GS) (h : Heap) : KC k 15 c0 σ h (fun x σ h => G x (σ 6) h) = n0 k G (σ 0) (σ 1) (σ 2) h := (kseq (a := c4) (b := c1) rfl (fun σ h => n1_eq k G σ h)).trans (by kernel_rfl)
def run {R : Type} (k : Nat) (a0 : GV) (a1 : GV) (a2 : GV) (h : Heap) (fin : GV → Heap → Option R) : Option R := n0 k (fun x v6 h => kend x (fin v6 h)) a0 a1 a2 h
theorem run_eq {R : Type} (k : Nat) (a0 : GV) (a1 : GV) (a2 : GV) (h : Heap) (fin : GV → Heap → Option R) : kfun PP cfg NN HH k fn.impl_in [a0, a1, a2] h fin = run k a0 a1 a2 h fin := (kfun_eq (nt := 15) (c := c0) (show PP.funcs[fn.impl_in]? = some Tryd.f104 by kernel_rfl) (by kernel_rfl) (by kernel_rfl) (fun x σ h => by cases x <;> kernel_rfl)).trans (n0_eq k (fun x v6 h => kend x (fin v6 h)) _ h)
theorem gives {k : Nat} {a0 : GV} {a1 : GV} {a2 : GV} {v : GV} (e : run k a0 a1 a2 [] finN = some v) : NN fn.impl_in [a0, a1, a2] = some v := nω_of (by kernel_rfl) ((run_eq k a0 a1 a2 [] finN).trans e)
end S.impl_in
/-! spec_l1In -/
namespace S.spec_l1In
noncomputable def c0 : Code := bodyOf Tryd.f96
noncomputable def c1 : Code := cR c0
noncomputable def c2 : Code := cR c1
@[simp] def n2 {R : Type} (k : Nat) (G : KT1 R) (v6 : GV) (h : Heap) : Option R := G .ret v6 h
theorem n2_eq (G : KT1 R) (σ : GS) (h : Heap) : KC k 15 c2 σ h (fun x σ h => G x (σ 6) h) = n2 k G (σ 6) h := by kernel_rfl
noncomputable def c3 : Code := cL c1
noncomputable def o3 : Array Oper := cO c3
@[simp] def g3_2 {R : Type} (k : Nat) (G : KT1 R) (v10 v13 : GV) (h : Heap) : Option R := (kpick v10 v13 (.bool false)).bind fun v14 => G .nrm v14 h
theorem g3_2_eq (G : KT1 R) (σ : GS) (h : Heap) : kgroups PP cfg NN HH 15 o3 [(none, [7, 8])] σ h (fun σ h => G .nrm (σ 6) h) = g3_2 k G (σ 10) (σ 13) h := by kernel_rfl
@[simp] def g3_1 (G : KT1 R) (v0 v2 v10 : GV) (h : Heap) : Option R := bif tr true v10 then (kbin .leq v0 v2).bind fun v13 => g3_2 k G v10 v13 h else g3_2 k G v10 .un h
theorem g3_1_eq (G : KT1 R) (σ : GS) (h : Heap) : kgroups PP cfg NN HH 15 o3 [(some (3, true), [4, 5, 6]), (none, [7, 8])] σ h (fun σ h => G .nrm (σ 6) h) = g3_1 k G (σ 0) (σ 2) (σ 10) h := (kgroups_cons (fun σ h => g3_2_eq k G σ h)).trans (by kernel_rfl)
@[simp] def g3_0 (G : KT1 R) (v0 v1 v2 : GV) (h : Heap) : Option R := (kbin .geq v0 v1).bind fun v9 => g3_1 k G v0 v2 v9 h
theorem g3_0_eq (G : KT1 R) (σ : GS) (h : Heap) : kgroups PP cfg NN HH 15 o3 [(none, [0, 1, 2, 3]), (some (3, true), [4, 5, 6]), (none, [7, 8])] σ h (fun σ h => G .nrm (σ 6) h) = g3_0 k G (σ 0) (σ 1) (σ 2) h := (kgroups_cons (fun σ h => g3_1_eq k G σ h)).trans (by kernel_rfl)
@[simp] def n3 (G : KT1 R) (v0 v1 v2 : GV) (h : Heap) : Option R := g3_0 k G v0 v1 v2 h
theorem n3_eq (G : KT1 R) (σ : GS) (h : Heap) : KC k 15 c3 σ h (fun x σ h => G x (σ 6) h) = n3 k G (σ 0) (σ 1) (σ 2) h := (kregion_eq (id := 1) (draw := false) (ops := o3) (gs := [(none, [0, 1, 2, 3]), (some (3, true), [4, 5, 6]), (none, [7, 8])]) (by kernel_rfl) (by kernel_rfl) (by kernel_rfl)).trans (g3_0_eq k G σ h)
@[simp] def n1 (G : KT1 R) (v0 v1 v2 : GV) (h : Heap) : Option R := n3 k (fun x v6 h => kx x (n2 k G v6 h) (G x v6 h)) v0 v1 v2 h
theorem n1_eq (G : KT1 R) (σ : GS) (h : Heap) : KC k 15 c1 σ h (fun x σ h => G x (σ 6) h) = n1 k G (σ 0) (σ 1) (σ 2) h := (kseq (b := c2) rfl (fun σ h => n2_eq k G σ h)).trans (n3_eq k (fun x v6 h => kx x (n2 k G v6 h) (G x v6 h)) σ h)
noncomputable def c4 : Code := cL c0
@[simp] def n0 (G : KT1 R) (v0 v1 v2 : GV) (h : Heap) : Option R := n1 k G v0 v1 v2 h
theorem n0_eq (G : KT1 R) (σ : GS) (h : Heap) : KC k 15 c0 σ h (fun x σ h => G x (σ 6) h) = n0 k G (σ 0) (σ 1) (σ 2) h := (kseq (a := c4) (b := c1) rfl (fun σ h => n1_eq k G σ h)).trans (by kernel_rfl)
def run {R : Type} (k : Nat) (a0 : GV) (a1 : GV) (a2 : GV) (h : Heap) (fin : GV → Heap → Option R) : Option R := n0 k (fun x v6 h => kend x (fin v6 h)) a0 a1 a2 h
theorem run_eq {R : Type} (k : Nat) (a0 : GV) (a1 : GV) (a2 : GV) (h : Heap) (fin : GV → Heap → Option R) : kfun PP cfg NN HH k fn.spec_l1In [a0, a1, a2] h fin = run k a0 a1 a2 h fin := (kfun_eq (nt := 15) (c := c0) (show PP.funcs[fn.spec_l1In]? = some Tryd.f96 by kernel_rfl) (by kernel_rfl) (by kernel_rfl) (fun x σ h => by cases x <;> kernel_rfl)).trans (n0_eq k (fun x v6 h => kend x (fin v6 h)) _ h)
theorem gives {k : Nat} {a0 : GV} {a1 : GV} {a2 : GV} {v : GV} (e : run k a0 a1 a2 [] finN = some v) : NN fn.spec_l1In [a0, a1, a2] = some v := nω_of (by kernel_rfl) ((run_eq k a0 a1 a2 [] finN).trans e)
end S.spec_l1In
end
end Go.Proofs.YtklhdbkaejbajaaDoor.G
