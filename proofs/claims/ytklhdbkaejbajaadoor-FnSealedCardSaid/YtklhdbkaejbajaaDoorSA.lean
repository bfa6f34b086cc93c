/- What these functions do, told for open values, out of the machine with continuations. Printed by a program of this session. -/
import Derived.Test.YtklhdbkaejbajaaDoorCfg
import Derived.KernelRfl
namespace Go.Proofs.YtklhdbkaejbajaaDoor.G
open Go.RowKit
set_option linter.unusedVariables false
set_option maxRecDepth 100000
abbrev KT0 (R : Type) : Type := GX → Heap → Option R
abbrev KT1 (R : Type) : Type := GX → GV → Heap → Option R
abbrev KT2 (R : Type) : Type := GX → GV → GV → Heap → Option R
abbrev KT3 (R : Type) : Type := GX → GV → GV → GV → Heap → Option R
abbrev KT4 (R : Type) : Type := GX → GV → GV → GV → GV → Heap → Option R
abbrev KT5 (R : Type) : Type := GX → GV → GV → GV → GV → GV → Heap → Option R
abbrev KT6 (R : Type) : Type := GX → GV → GV → GV → GV → GV → GV → Heap → Option R
abbrev KT7 (R : Type) : Type := GX → GV → GV → GV → GV → GV → GV → GV → Heap → Option R
abbrev KT8 (R : Type) : Type := GX → GV → GV → GV → GV → GV → GV → GV → GV → Heap → Option R
abbrev KT9 (R : Type) : Type := GX → GV → GV → GV → GV → GV → GV → GV → GV → GV → Heap → Option R
abbrev KT10 (R : Type) : Type := GX → GV → GV → GV → GV → GV → GV → GV → GV → GV → GV → Heap → Option R
abbrev KT11 (R : Type) : Type := GX → GV → GV → GV → GV → GV → GV → GV → GV → GV → GV → GV → Heap → Option R
abbrev KT12 (R : Type) : Type := GX → GV → GV → GV → GV → GV → GV → GV → GV → GV → GV → GV → GV → Heap → Option R
abbrev KT13 (R : Type) : Type := GX → GV → GV → GV → GV → GV → GV → GV → GV → GV → GV → GV → GV → GV → Heap → Option R
abbrev KT14 (R : Type) : Type := GX → GV → GV → GV → GV → GV → GV → GV → GV → GV → GV → GV → GV → GV → GV → Heap → Option R
abbrev KT15 (R : Type) : Type := GX → GV → GV → GV → GV → GV → GV → GV → GV → GV → GV → GV → GV → GV → GV → GV → Heap → Option R
abbrev KT16 (R : Type) : Type := GX → GV → GV → GV → GV → GV → GV → GV → GV → GV → GV → GV → GV → GV → GV → GV → GV → Heap → Option R
abbrev KT17 (R : Type) : Type := GX → GV → GV → GV → GV → GV → GV → GV → GV → GV → GV → GV → GV → GV → GV → GV → GV → GV → Heap → Option R
abbrev KT18 (R : Type) : Type := GX → GV → GV → GV → GV → GV → GV → GV → GV → GV → GV → GV → GV → GV → GV → GV → GV → GV → GV → Heap → Option R
abbrev KT19 (R : Type) : Type := GX → GV → GV → GV → GV → GV → GV → GV → GV → GV → GV → GV → GV → GV → GV → GV → GV → GV → GV → GV → Heap → Option R
abbrev KT20 (R : Type) : Type := GX → GV → GV → GV → GV → GV → GV → GV → GV → GV → GV → GV → GV → GV → GV → GV → GV → GV → GV → GV → GV → Heap → Option R
abbrev KT21 (R : Type) : Type := GX → GV → GV → GV → GV → GV → GV → GV → GV → GV → GV → GV → GV → GV → GV → GV → GV → GV → GV → GV → GV → GV → Heap → Option R
abbrev KT22 (R : Type) : Type := GX → GV → GV → GV → GV → GV → GV → GV → GV → GV → GV → GV → GV → GV → GV → GV → GV → GV → GV → GV → GV → GV → GV → Heap → Option R
abbrev KT23 (R : Type) : Type := GX → GV → GV → GV → GV → GV → GV → GV → GV → GV → GV → GV → GV → GV → GV → GV → GV → GV → GV → GV → GV → GV → GV → GV → Heap → Option R
abbrev KT24 (R : Type) : Type := GX → GV → GV → GV → GV → GV → GV → GV → GV → GV → GV → GV → GV → GV → GV → GV → GV → GV → GV → GV → GV → GV → GV → GV → GV → Heap → Option R
abbrev KT25 (R : Type) : Type := GX → GV → GV → GV → GV → GV → GV → GV → GV → GV → GV → GV → GV → GV → GV → GV → GV → GV → GV → GV → GV → GV → GV → GV → GV → GV → Heap → Option R
abbrev KT26 (R : Type) : Type := GX → GV → GV → GV → GV → GV → GV → GV → GV → GV → GV → GV → GV → GV → GV → GV → GV → GV → GV → GV → GV → GV → GV → GV → GV → GV → GV → Heap → Option R
abbrev KT27 (R : Type) : Type := GX → GV → GV → GV → GV → GV → GV → GV → GV → GV → GV → GV → GV → GV → GV → GV → GV → GV → GV → GV → GV → GV → GV → GV → GV → GV → GV → GV → Heap → Option R
abbrev KT28 (R : Type) : Type := GX → GV → GV → GV → GV → GV → GV → GV → GV → GV → GV → GV → GV → GV → GV → GV → GV → GV → GV → GV → GV → GV → GV → GV → GV → GV → GV → GV → GV → Heap → Option R
abbrev KT29 (R : Type) : Type := GX → GV → GV → GV → GV → GV → GV → GV → GV → GV → GV → GV → GV → GV → GV → GV → GV → GV → GV → GV → GV → GV → GV → GV → GV → GV → GV → GV → GV → GV → Heap → Option R
abbrev KT30 (R : Type) : Type := GX → GV → GV → GV → GV → GV → GV → GV → GV → GV → GV → GV → GV → GV → GV → GV → GV → GV → GV → GV → GV → GV → GV → GV → GV → GV → GV → GV → GV → GV → GV → Heap → Option R
noncomputable section
/-! spec_Record -/
namespace S.spec_Record
noncomputable def c0 : Code := bodyOf Tryd.f14
@[simp] def n0 {R : Type} (k : Nat) (G : KT1 R) (v0 : GV) (h : Heap) : Option R := (klenS v0).bind fun v4 => (kbin .gtr v4 (.int .i64 5000)).bind fun v5 => kcond v5 (G .ret (.str { data := #[] }) h) ((klenS v0).bind fun v7 => (kN NN fn.spec_l3Int [v7] h).bind fun v8 => (kbin .add v8 (.str { data := #[32] })).bind fun v9 => (kN NN fn.spec_Sum [v0] h).bind fun v11 => (kN NN fn.spec_l3Int [v11] h).bind fun v12 => (kbin .add v9 v12).bind fun v13 => (kbin .add v13 (.str { data := #[10] })).bind fun v14 => (kbin .add v14 v0).bind fun v16 => (kbin .add v16 (.str { data := #[10] })).bind fun v17 => G .ret v17 h)
theorem n0_eq {R : Type} (k : Nat) (G : KT1 R) (σ : GS) (h : Heap) : KC k 18 c0 σ h (fun x σ h => G x (σ 2) h) = n0 k G (σ 0) h := by kernel_rfl
def run {R : Type} (k : Nat) (a0 : GV) (h : Heap) (fin : GV → Heap → Option R) : Option R := n0 k (fun x v2 h => kend x (fin v2 h)) a0 h
theorem run_eq {R : Type} (k : Nat) (a0 : GV) (h : Heap) (fin : GV → Heap → Option R) : kfun PP cfg NN HH k fn.spec_Record [a0] h fin = run k a0 h fin := (kfun_eq (nt := 18) (c := c0) (show PP.funcs[fn.spec_Record]? = some Tryd.f14 by kernel_rfl) (by kernel_rfl) (by kernel_rfl) (fun x σ h => by cases x <;> kernel_rfl)).trans (n0_eq k (fun x v2 h => kend x (fin v2 h)) _ h)
theorem gives {k : Nat} {a0 : GV} {v : GV} (e : run k a0 [] finN = some v) : NN fn.spec_Record [a0] = some v := nω_of (by kernel_rfl) ((run_eq k a0 [] finN).trans e)
end S.spec_Record
/-! impl_Record -/
namespace S.impl_Record
noncomputable def c0 : Code := bodyOf Tryd.f15
@[simp] def n0 {R : Type} (k : Nat) (G : KT1 R) (v0 : GV) (h : Heap) : Option R := (klenS v0).bind fun v4 => (kbin .gtr v4 (.int .i64 5000)).bind fun v5 => kcond v5 (G .ret (.str { data := #[] }) h) ((klenS v0).bind fun v7 => (kN NN fn.impl_decimal [v7] h).bind fun v8 => (kbin .add v8 (.str { data := #[32] })).bind fun v9 => (kN NN fn.impl_Sum [v0] h).bind fun v11 => (kN NN fn.impl_decimal [v11] h).bind fun v12 => (kbin .add v9 v12).bind fun v13 => (kbin .add v13 (.str { data := #[10] })).bind fun v14 => (kbin .add v14 v0).bind fun v16 => (kbin .add v16 (.str { data := #[10] })).bind fun v17 => G .ret v17 h)
theorem n0_eq {R : Type} (k : Nat) (G : KT1 R) (σ : GS) (h : Heap) : KC k 18 c0 σ h (fun x σ h => G x (σ 2) h) = n0 k G (σ 0) h := by kernel_rfl
def run {R : Type} (k : Nat) (a0 : GV) (h : Heap) (fin : GV → Heap → Option R) : Option R := n0 k (fun x v2 h => kend x (fin v2 h)) a0 h
theorem run_eq {R : Type} (k : Nat) (a0 : GV) (h : Heap) (fin : GV → Heap → Option R) : kfun PP cfg NN HH k fn.impl_Record [a0] h fin = run k a0 h fin := (kfun_eq (nt := 18) (c := c0) (show PP.funcs[fn.impl_Record]? = some Tryd.f15 by kernel_rfl) (by kernel_rfl) (by kernel_rfl) (fun x σ h => by cases x <;> kernel_rfl)).trans (n0_eq k (fun x v2 h => kend x (fin v2 h)) _ h)
theorem gives {k : Nat} {a0 : GV} {v : GV} (e : run k a0 [] finN = some v) : NN fn.impl_Record [a0] = some v := nω_of (by kernel_rfl) ((run_eq k a0 [] finN).trans e)
end S.impl_Record
/-! spec_Sealed -/
namespace S.spec_Sealed
noncomputable def c0 : Code := bodyOf Tryd.f16
@[simp] def n0 {R : Type} (k : Nat) (G : KT1 R) (v0 v1 v2 : GV) (h : Heap) : Option R := (klenS v2).bind fun v10 => (kN NN fn.spec_l14Told [v0, v1, v10] h).bind fun v11 => (kun .not v11).bind fun v12 => kcond v12 (G .ret (.str { data := #[] }) h) ((kN NN fn.spec_l3Int [v1] h).bind fun v14 => (kbin .add v14 (.str { data := #[32] })).bind fun v15 => (kN NN fn.spec_Mark [v0, v1, v2] h).bind fun v19 => (kN NN fn.spec_l3Int [v19] h).bind fun v20 => (kbin .add v15 v20).bind fun v21 => (kbin .add v21 (.str { data := #[32] })).bind fun v22 => (klenS v2).bind fun v27 => (kN NN fn.spec_Stream [v0, v1, v27] h).bind fun v28 => (kN NN fn.spec_l14Xor [v2, v28] h).bind fun v29 => (kbin .add v22 v29).bind fun v30 => G .ret v30 h)
theorem n0_eq {R : Type} (k : Nat) (G : KT1 R) (σ : GS) (h : Heap) : KC k 31 c0 σ h (fun x σ h => G x (σ 6) h) = n0 k G (σ 0) (σ 1) (σ 2) h := by kernel_rfl
def run {R : Type} (k : Nat) (a0 : GV) (a1 : GV) (a2 : GV) (h : Heap) (fin : GV → Heap → Option R) : Option R := n0 k (fun x v6 h => kend x (fin v6 h)) a0 a1 a2 h
theorem run_eq {R : Type} (k : Nat) (a0 : GV) (a1 : GV) (a2 : GV) (h : Heap) (fin : GV → Heap → Option R) : kfun PP cfg NN HH k fn.spec_Sealed [a0, a1, a2] h fin = run k a0 a1 a2 h fin := (kfun_eq (nt := 31) (c := c0) (show PP.funcs[fn.spec_Sealed]? = some Tryd.f16 by kernel_rfl) (by kernel_rfl) (by kernel_rfl) (fun x σ h => by cases x <;> kernel_rfl)).trans (n0_eq k (fun x v6 h => kend x (fin v6 h)) _ h)
theorem gives {k : Nat} {a0 : GV} {a1 : GV} {a2 : GV} {v : GV} (e : run k a0 a1 a2 [] finN = some v) : NN fn.spec_Sealed [a0, a1, a2] = some v := nω_of (by kernel_rfl) ((run_eq k a0 a1 a2 [] finN).trans e)
end S.spec_Sealed
/-! impl_Sealed -/
namespace S.impl_Sealed
noncomputable def c0 : Code := bodyOf Tryd.f17
@[simp] def n0 {R : Type} (k : Nat) (G : KT1 R) (v0 v1 v2 : GV) (h : Heap) : Option R := (klenS v2).bind fun v10 => (kN NN fn.impl_isSeal [v0, v1, v10] h).bind fun v11 => (kun .not v11).bind fun v12 => kcond v12 (G .ret (.str { data := #[] }) h) ((kN NN fn.impl_decimal [v1] h).bind fun v14 => (kbin .add v14 (.str { data := #[32] })).bind fun v15 => (kN NN fn.impl_Mark [v0, v1, v2] h).bind fun v19 => (kN NN fn.impl_decimal [v19] h).bind fun v20 => (kbin .add v15 v20).bind fun v21 => (kbin .add v21 (.str { data := #[32] })).bind fun v22 => (kN NN fn.impl_xored [v0, v1, v2] h).bind fun v26 => (kbin .add v22 v26).bind fun v27 => G .ret v27 h)
theorem n0_eq {R : Type} (k : Nat) (G : KT1 R) (σ : GS) (h : Heap) : KC k 28 c0 σ h (fun x σ h => G x (σ 6) h) = n0 k G (σ 0) (σ 1) (σ 2) h := by kernel_rfl
def run {R : Type} (k : Nat) (a0 : GV) (a1 : GV) (a2 : GV) (h : Heap) (fin : GV → Heap → Option R) : Option R := n0 k (fun x v6 h => kend x (fin v6 h)) a0 a1 a2 h
theorem run_eq {R : Type} (k : Nat) (a0 : GV) (a1 : GV) (a2 : GV) (h : Heap) (fin : GV → Heap → Option R) : kfun PP cfg NN HH k fn.impl_Sealed [a0, a1, a2] h fin = run k a0 a1 a2 h fin := (kfun_eq (nt := 28) (c := c0) (show PP.funcs[fn.impl_Sealed]? = some Tryd.f17 by kernel_rfl) (by kernel_rfl) (by kernel_rfl) (fun x σ h => by cases x <;> kernel_rfl)).trans (n0_eq k (fun x v6 h => kend x (fin v6 h)) _ h)
theorem gives {k : Nat} {a0 : GV} {a1 : GV} {a2 : GV} {v : GV} (e : run k a0 a1 a2 [] finN = some v) : NN fn.impl_Sealed [a0, a1, a2] = some v := nω_of (by kernel_rfl) ((run_eq k a0 a1 a2 [] finN).trans e)
end S.impl_Sealed
/-! impl_Mark -/
namespace S.impl_Mark
noncomputable def c0 : Code := bodyOf Tryd.f34
noncomputable def c1 : Code := cR c0
noncomputable def c2 : Code := cR c1
noncomputable def c3 : Code := cR c2
noncomputable def c4 : Code := cR c3
@[simp] def n4 {R : Type} (k : Nat) (G : KT1 R) (v7 : GV) (h : Heap) : Option R := G .ret v7 h
theorem n4_eq {R : Type} (k : Nat) (G : KT1 R) (σ : GS) (h : Heap) : KC k 35 c4 σ h (fun x σ h => G x (σ 6) h) = n4 k G (σ 7) h := by kernel_rfl
noncomputable def c5 : Code := cL c3
noncomputable def c6 : Code := cR c5
noncomputable def c7 : Code := cL c6
noncomputable def c8 : Code := cL c7
noncomputable def c9 : Code := cR c8
noncomputable def c10 : Code := cR c9
noncomputable def c11 : Code := cR c10
@[simp] def n11 {R : Type} (k : Nat) (G : KT5 R) (v2 v6 v7 v22 v23 : GV) (h : Heap) : Option R := (kbin .add v23 (.int .i64 1)).bind fun v33 => G .nrm v2 v6 v7 v22 v33 h
theorem n11_eq {R : Type} (k : Nat) (G : KT5 R) (σ : GS) (h : Heap) : KC k 35 c11 σ h (fun x σ h => G x (σ 2) (σ 6) (σ 7) (σ 22) (σ 23) h) = n11 k G (σ 2) (σ 6) (σ 7) (σ 22) (σ 23) h := by kernel_rfl
noncomputable def c12 : Code := cL c10
noncomputable def c13 : Code := cL c12
@[simp] def n13 {R : Type} (k : Nat) (G : KT5 R) (v2 v6 v7 v22 v23 : GV) (h : Heap) : Option R := (kbyte v2 v23).bind fun v29 => (kconvI .i64 v29).bind fun v30 => (kbin .add v30 (.int .i64 1)).bind fun v31 => (kN NN fn.impl_Mix [v7, v31] h).bind fun v32 => G .nrm v2 v6 v32 v22 v23 h
theorem n13_eq {R : Type} (k : Nat) (G : KT5 R) (σ : GS) (h : Heap) : KC k 35 c13 σ h (fun x σ h => G x (σ 2) (σ 6) (σ 7) (σ 22) (σ 23) h) = n13 k G (σ 2) (σ 6) (σ 7) (σ 22) (σ 23) h := by kernel_rfl
@[simp] def n12 {R : Type} (k : Nat) (G : KT5 R) (v2 v6 v7 v22 v23 : GV) (h : Heap) : Option R := n13 k (fun x v2 v6 v7 v22 v23 h => kb 1 x fun x => G x v2 v6 v7 v22 v23 h) v2 v6 v7 v22 v23 h
theorem n12_eq {R : Type} (k : Nat) (G : KT5 R) (σ : GS) (h : Heap) : KC k 35 c12 σ h (fun x σ h => G x (σ 2) (σ 6) (σ 7) (σ 22) (σ 23) h) = n12 k G (σ 2) (σ 6) (σ 7) (σ 22) (σ 23) h := (kblock_eq (a := c13) rfl).trans (n13_eq k (fun x v2 v6 v7 v22 v23 h => kb 1 x fun x => G x v2 v6 v7 v22 v23 h) σ h)
@[simp] def n10 {R : Type} (k : Nat) (G : KT5 R) (v2 v6 v7 v22 v23 : GV) (h : Heap) : Option R := n12 k (fun x v2 v6 v7 v22 v23 h => kx x (n11 k G v2 v6 v7 v22 v23 h) (G x v2 v6 v7 v22 v23 h)) v2 v6 v7 v22 v23 h
theorem n10_eq {R : Type} (k : Nat) (G : KT5 R) (σ : GS) (h : Heap) : KC k 35 c10 σ h (fun x σ h => G x (σ 2) (σ 6) (σ 7) (σ 22) (σ 23) h) = n10 k G (σ 2) (σ 6) (σ 7) (σ 22) (σ 23) h := (kseq (b := c11) rfl (fun σ h => n11_eq k G σ h)).trans (n12_eq k (fun x v2 v6 v7 v22 v23 h => kx x (n11 k G v2 v6 v7 v22 v23 h) (G x v2 v6 v7 v22 v23 h)) σ h)
noncomputable def c14 : Code := cL c9
@[simp] def n9 {R : Type} (k : Nat) (G : KT5 R) (v2 v6 v7 v22 v23 v24 : GV) (h : Heap) : Option R := kcond v24 (n10 k G v2 v6 v7 v22 v23 h) (G (.ext 0) v2 v6 v7 v22 v23 h)
theorem n9_eq0 {R : Type} (k : Nat) (G : KT5 R) (σ : GS) (h : Heap) : KC k 35 c14 σ h (fun x σ h => kx x (n10 k G (σ 2) (σ 6) (σ 7) (σ 22) (σ 23) h) (G x (σ 2) (σ 6) (σ 7) (σ 22) (σ 23) h)) = n9 k G (σ 2) (σ 6) (σ 7) (σ 22) (σ 23) (σ 24) h := by kernel_rfl
theorem n9_eq {R : Type} (k : Nat) (G : KT5 R) (σ : GS) (h : Heap) : KC k 35 c9 σ h (fun x σ h => G x (σ 2) (σ 6) (σ 7) (σ 22) (σ 23) h) = n9 k G (σ 2) (σ 6) (σ 7) (σ 22) (σ 23) (σ 24) h := (kseq (b := c10) rfl (fun σ h => n10_eq k G σ h)).trans (n9_eq0 k G σ h)
noncomputable def c15 : Code := cL c8
@[simp] def n8 {R : Type} (k : Nat) (G : KT5 R) (v2 v6 v7 v22 v23 : GV) (h : Heap) : Option R := (kbin .lss v23 v22).bind fun v24 => n9 k G v2 v6 v7 v22 v23 v24 h
theorem n8_eq0 {R : Type} (k : Nat) (G : KT5 R) (σ : GS) (h : Heap) : KC k 35 c15 σ h (fun x σ h => kx x (n9 k G (σ 2) (σ 6) (σ 7) (σ 22) (σ 23) (σ 24) h) (G x (σ 2) (σ 6) (σ 7) (σ 22) (σ 23) h)) = n8 k G (σ 2) (σ 6) (σ 7) (σ 22) (σ 23) h := by kernel_rfl
theorem n8_eq {R : Type} (k : Nat) (G : KT5 R) (σ : GS) (h : Heap) : KC k 35 c8 σ h (fun x σ h => G x (σ 2) (σ 6) (σ 7) (σ 22) (σ 23) h) = n8 k G (σ 2) (σ 6) (σ 7) (σ 22) (σ 23) h := (kseq (b := c9) rfl (fun σ h => n9_eq k G σ h)).trans (n8_eq0 k G σ h)
def l7 {R : Type} (k : Nat) (G : KT2 R) : Nat → GV → GV → GV → GV → GV → Heap → Option R
  | 0, _, _, _, _, _, _ => none
  | r + 1, v2, v6, v7, v22, v23, h => n8 k (fun x v2 v6 v7 v22 v23 h => kx x (l7 k G r v2 v6 v7 v22 v23 h) (G x v6 v7 h)) v2 v6 v7 v22 v23 h
theorem l7_eq {R : Type} (k : Nat) (G : KT2 R) : ∀ (r : Nat) (σ : GS) (h : Heap), kloop (fun σ h K => KC k 35 c8 σ h K) r σ h (fun x σ h => G x (σ 6) (σ 7) h) = l7 k G r (σ 2) (σ 6) (σ 7) (σ 22) (σ 23) h
  | 0, _, _ => rfl
  | r + 1, σ, h => (kloop_eq (fun σ h => l7_eq k G r σ h)).trans (n8_eq k (fun x v2 v6 v7 v22 v23 h => kx x (l7 k G r v2 v6 v7 v22 v23 h) (G x v6 v7 h)) σ h)
@[simp] def n7 {R : Type} (k : Nat) (G : KT2 R) (v2 v6 v7 v22 v23 : GV) (h : Heap) : Option R := l7 k G k v2 v6 v7 v22 v23 h
theorem n7_eq {R : Type} (k : Nat) (G : KT2 R) (σ : GS) (h : Heap) : KC k 35 c7 σ h (fun x σ h => G x (σ 6) (σ 7) h) = n7 k G (σ 2) (σ 6) (σ 7) (σ 22) (σ 23) h := (kloopc_eq (a := c8) rfl).trans (l7_eq k G k σ h)
@[simp] def n6 {R : Type} (k : Nat) (G : KT2 R) (v2 v6 v7 v22 v23 : GV) (h : Heap) : Option R := n7 k (fun x v6 v7 h => kb 0 x fun x => G x v6 v7 h) v2 v6 v7 v22 v23 h
theorem n6_eq {R : Type} (k : Nat) (G : KT2 R) (σ : GS) (h : Heap) : KC k 35 c6 σ h (fun x σ h => G x (σ 6) (σ 7) h) = n6 k G (σ 2) (σ 6) (σ 7) (σ 22) (σ 23) h := (kblock_eq (a := c7) rfl).trans (n7_eq k (fun x v6 v7 h => kb 0 x fun x => G x v6 v7 h) σ h)
noncomputable def c16 : Code := cL c5
@[simp] def n5 {R : Type} (k : Nat) (G : KT2 R) (v2 v6 v7 : GV) (h : Heap) : Option R := (klenS v2).bind fun v22 => n6 k G v2 v6 v7 v22 (.int .i64 0) h
theorem n5_eq0 {R : Type} (k : Nat) (G : KT2 R) (σ : GS) (h : Heap) : KC k 35 c16 σ h (fun x σ h => kx x (n6 k G (σ 2) (σ 6) (σ 7) (σ 22) (σ 23) h) (G x (σ 6) (σ 7) h)) = n5 k G (σ 2) (σ 6) (σ 7) h := by kernel_rfl
theorem n5_eq {R : Type} (k : Nat) (G : KT2 R) (σ : GS) (h : Heap) : KC k 35 c5 σ h (fun x σ h => G x (σ 6) (σ 7) h) = n5 k G (σ 2) (σ 6) (σ 7) h := (kseq (b := c6) rfl (fun σ h => n6_eq k G σ h)).trans (n5_eq0 k G σ h)
@[simp] def n3 {R : Type} (k : Nat) (G : KT1 R) (v2 v6 v7 : GV) (h : Heap) : Option R := n5 k (fun x v6 v7 h => kx x (n4 k G v7 h) (G x v6 h)) v2 v6 v7 h
theorem n3_eq {R : Type} (k : Nat) (G : KT1 R) (σ : GS) (h : Heap) : KC k 35 c3 σ h (fun x σ h => G x (σ 6) h) = n3 k G (σ 2) (σ 6) (σ 7) h := (kseq (b := c4) rfl (fun σ h => n4_eq k G σ h)).trans (n5_eq k (fun x v6 v7 h => kx x (n4 k G v7 h) (G x v6 h)) σ h)
noncomputable def c17 : Code := cL c2
@[simp] def n2 {R : Type} (k : Nat) (G : KT1 R) (v0 v1 v2 v6 : GV) (h : Heap) : Option R := (kN NN fn.impl_begun [(.int .i64 5), v0, v1] h).bind fun v17 => (klenS v2).bind fun v19 => (kN NN fn.impl_Mix [v17, v19] h).bind fun v20 => n3 k G v2 v6 v20 h
theorem n2_eq0 {R : Type} (k : Nat) (G : KT1 R) (σ : GS) (h : Heap) : KC k 35 c17 σ h (fun x σ h => kx x (n3 k G (σ 2) (σ 6) (σ 7) h) (G x (σ 6) h)) = n2 k G (σ 0) (σ 1) (σ 2) (σ 6) h := by kernel_rfl
theorem n2_eq {R : Type} (k : Nat) (G : KT1 R) (σ : GS) (h : Heap) : KC k 35 c2 σ h (fun x σ h => G x (σ 6) h) = n2 k G (σ 0) (σ 1) (σ 2) (σ 6) h := (kseq (b := c3) rfl (fun σ h => n3_eq k G σ h)).trans (n2_eq0 k G σ h)
noncomputable def c18 : Code := cL c1
@[simp] def n1 {R : Type} (k : Nat) (G : KT1 R) (v0 v1 v2 v6 : GV) (h : Heap) : Option R := (klenS v2).bind fun v12 => (kN NN fn.impl_isSeal [v0, v1, v12] h).bind fun v13 => (kun .not v13).bind fun v14 => kcond v14 (G .ret (.int .i64 (-1)) h) (n2 k G v0 v1 v2 v6 h)
theorem n1_eq0 {R : Type} (k : Nat) (G : KT1 R) (σ : GS) (h : Heap) : KC k 35 c18 σ h (fun x σ h => kx x (n2 k G (σ 0) (σ 1) (σ 2) (σ 6) h) (G x (σ 6) h)) = n1 k G (σ 0) (σ 1) (σ 2) (σ 6) h := by kernel_rfl
theorem n1_eq {R : Type} (k : Nat) (G : KT1 R) (σ : GS) (h : Heap) : KC k 35 c1 σ h (fun x σ h => G x (σ 6) h) = n1 k G (σ 0) (σ 1) (σ 2) (σ 6) h := (kseq (b := c2) rfl (fun σ h => n2_eq k G σ h)).trans (n1_eq0 k G σ h)
noncomputable def c19 : Code := cL c0
@[simp] def n0 {R : Type} (k : Nat) (G : KT1 R) (v0 v1 v2 : GV) (h : Heap) : Option R := n1 k G v0 v1 v2 (.int .i64 0) h
theorem n0_eq0 {R : Type} (k : Nat) (G : KT1 R) (σ : GS) (h : Heap) : KC k 35 c19 σ h (fun x σ h => kx x (n1 k G (σ 0) (σ 1) (σ 2) (σ 6) h) (G x (σ 6) h)) = n0 k G (σ 0) (σ 1) (σ 2) h := by kernel_rfl
theorem n0_eq {R : Type} (k : Nat) (G : KT1 R) (σ : GS) (h : Heap) : KC k 35 c0 σ h (fun x σ h => G x (σ 6) h) = n0 k G (σ 0) (σ 1) (σ 2) h := (kseq (b := c1) rfl (fun σ h => n1_eq k G σ h)).trans (n0_eq0 k G σ h)
def run {R : Type} (k : Nat) (a0 : GV) (a1 : GV) (a2 : GV) (h : Heap) (fin : GV → Heap → Option R) : Option R := n0 k (fun x v6 h => kend x (fin v6 h)) a0 a1 a2 h
theorem run_eq {R : Type} (k : Nat) (a0 : GV) (a1 : GV) (a2 : GV) (h : Heap) (fin : GV → Heap → Option R) : kfun PP cfg NN HH k fn.impl_Mark [a0, a1, a2] h fin = run k a0 a1 a2 h fin := (kfun_eq (nt := 35) (c := c0) (show PP.funcs[fn.impl_Mark]? = some Tryd.f34 by kernel_rfl) (by kernel_rfl) (by kernel_rfl) (fun x σ h => by cases x <;> kernel_rfl)).trans (n0_eq k (fun x v6 h => kend x (fin v6 h)) _ h)
theorem gives {k : Nat} {a0 : GV} {a1 : GV} {a2 : GV} {v : GV} (e : run k a0 a1 a2 [] finN = some v) : NN fn.impl_Mark [a0, a1, a2] = some v := nω_of (by kernel_rfl) ((run_eq k a0 a1 a2 [] finN).trans e)
end S.impl_Mark
/-! spec_Mark -/
namespace S.spec_Mark
noncomputable def c0 : Code := bodyOf Tryd.f37
noncomputable def c1 : Code := cR c0
noncomputable def c2 : Code := cR c1
noncomputable def c3 : Code := cR c2
noncomputable def c4 : Code := cR c3
@[simp] def n4 {R : Type} (k : Nat) (G : KT1 R) (v7 : GV) (h : Heap) : Option R := G .ret v7 h
theorem n4_eq {R : Type} (k : Nat) (G : KT1 R) (σ : GS) (h : Heap) : KC k 35 c4 σ h (fun x σ h => G x (σ 6) h) = n4 k G (σ 7) h := by kernel_rfl
noncomputable def c5 : Code := cL c3
noncomputable def c6 : Code := cR c5
noncomputable def c7 : Code := cL c6
noncomputable def c8 : Code := cL c7
noncomputable def c9 : Code := cR c8
noncomputable def c10 : Code := cR c9
@[simp] def n10 {R : Type} (k : Nat) (G : KT4 R) (v2 v6 v7 v8 : GV) (h : Heap) : Option R := (kbin .add v8 (.int .i64 1)).bind fun v26 => G .nrm v2 v6 v7 v26 h
theorem n10_eq {R : Type} (k : Nat) (G : KT4 R) (σ : GS) (h : Heap) : KC k 35 c10 σ h (fun x σ h => G x (σ 2) (σ 6) (σ 7) (σ 8) h) = n10 k G (σ 2) (σ 6) (σ 7) (σ 8) h := by kernel_rfl
noncomputable def c11 : Code := cL c9
noncomputable def c12 : Code := cL c11
@[simp] def n12 {R : Type} (k : Nat) (G : KT4 R) (v2 v6 v7 v8 : GV) (h : Heap) : Option R := (kbyte v2 v8).bind fun v30 => (kconvI .i64 v30).bind fun v31 => (kbin .add v31 (.int .i64 1)).bind fun v32 => (kN NN fn.spec_Mix [v7, v32] h).bind fun v33 => G .nrm v2 v6 v33 v8 h
theorem n12_eq {R : Type} (k : Nat) (G : KT4 R) (σ : GS) (h : Heap) : KC k 35 c12 σ h (fun x σ h => G x (σ 2) (σ 6) (σ 7) (σ 8) h) = n12 k G (σ 2) (σ 6) (σ 7) (σ 8) h := by kernel_rfl
@[simp] def n11 {R : Type} (k : Nat) (G : KT4 R) (v2 v6 v7 v8 : GV) (h : Heap) : Option R := n12 k (fun x v2 v6 v7 v8 h => kb 1 x fun x => G x v2 v6 v7 v8 h) v2 v6 v7 v8 h
theorem n11_eq {R : Type} (k : Nat) (G : KT4 R) (σ : GS) (h : Heap) : KC k 35 c11 σ h (fun x σ h => G x (σ 2) (σ 6) (σ 7) (σ 8) h) = n11 k G (σ 2) (σ 6) (σ 7) (σ 8) h := (kblock_eq (a := c12) rfl).trans (n12_eq k (fun x v2 v6 v7 v8 h => kb 1 x fun x => G x v2 v6 v7 v8 h) σ h)
@[simp] def n9 {R : Type} (k : Nat) (G : KT4 R) (v2 v6 v7 v8 : GV) (h : Heap) : Option R := n11 k (fun x v2 v6 v7 v8 h => kx x (n10 k G v2 v6 v7 v8 h) (G x v2 v6 v7 v8 h)) v2 v6 v7 v8 h
theorem n9_eq {R : Type} (k : Nat) (G : KT4 R) (σ : GS) (h : Heap) : KC k 35 c9 σ h (fun x σ h => G x (σ 2) (σ 6) (σ 7) (σ 8) h) = n9 k G (σ 2) (σ 6) (σ 7) (σ 8) h := (kseq (b := c10) rfl (fun σ h => n10_eq k G σ h)).trans (n11_eq k (fun x v2 v6 v7 v8 h => kx x (n10 k G v2 v6 v7 v8 h) (G x v2 v6 v7 v8 h)) σ h)
noncomputable def c13 : Code := cL c8
@[simp] def n8 {R : Type} (k : Nat) (G : KT4 R) (v2 v6 v7 v8 : GV) (h : Heap) : Option R := (klenS v2).bind fun v23 => (kbin .lss v8 v23).bind fun v24 => kcond v24 (n9 k G v2 v6 v7 v8 h) (G (.ext 0) v2 v6 v7 v8 h)
theorem n8_eq0 {R : Type} (k : Nat) (G : KT4 R) (σ : GS) (h : Heap) : KC k 35 c13 σ h (fun x σ h => kx x (n9 k G (σ 2) (σ 6) (σ 7) (σ 8) h) (G x (σ 2) (σ 6) (σ 7) (σ 8) h)) = n8 k G (σ 2) (σ 6) (σ 7) (σ 8) h := by kernel_rfl
theorem n8_eq {R : Type} (k : Nat) (G : KT4 R) (σ : GS) (h : Heap) : KC k 35 c8 σ h (fun x σ h => G x (σ 2) (σ 6) (σ 7) (σ 8) h) = n8 k G (σ 2) (σ 6) (σ 7) (σ 8) h := (kseq (b := c9) rfl (fun σ h => n9_eq k G σ h)).trans (n8_eq0 k G σ h)
def l7 {R : Type} (k : Nat) (G : KT2 R) : Nat → GV → GV → GV → GV → Heap → Option R
  | 0, _, _, _, _, _ => none
  | r + 1, v2, v6, v7, v8, h => n8 k (fun x v2 v6 v7 v8 h => kx x (l7 k G r v2 v6 v7 v8 h) (G x v6 v7 h)) v2 v6 v7 v8 h
theorem l7_eq {R : Type} (k : Nat) (G : KT2 R) : ∀ (r : Nat) (σ : GS) (h : Heap), kloop (fun σ h K => KC k 35 c8 σ h K) r σ h (fun x σ h => G x (σ 6) (σ 7) h) = l7 k G r (σ 2) (σ 6) (σ 7) (σ 8) h
  | 0, _, _ => rfl
  | r + 1, σ, h => (kloop_eq (fun σ h => l7_eq k G r σ h)).trans (n8_eq k (fun x v2 v6 v7 v8 h => kx x (l7 k G r v2 v6 v7 v8 h) (G x v6 v7 h)) σ h)
@[simp] def n7 {R : Type} (k : Nat) (G : KT2 R) (v2 v6 v7 v8 : GV) (h : Heap) : Option R := l7 k G k v2 v6 v7 v8 h
theorem n7_eq {R : Type} (k : Nat) (G : KT2 R) (σ : GS) (h : Heap) : KC k 35 c7 σ h (fun x σ h => G x (σ 6) (σ 7) h) = n7 k G (σ 2) (σ 6) (σ 7) (σ 8) h := (kloopc_eq (a := c8) rfl).trans (l7_eq k G k σ h)
@[simp] def n6 {R : Type} (k : Nat) (G : KT2 R) (v2 v6 v7 v8 : GV) (h : Heap) : Option R := n7 k (fun x v6 v7 h => kb 0 x fun x => G x v6 v7 h) v2 v6 v7 v8 h
theorem n6_eq {R : Type} (k : Nat) (G : KT2 R) (σ : GS) (h : Heap) : KC k 35 c6 σ h (fun x σ h => G x (σ 6) (σ 7) h) = n6 k G (σ 2) (σ 6) (σ 7) (σ 8) h := (kblock_eq (a := c7) rfl).trans (n7_eq k (fun x v6 v7 h => kb 0 x fun x => G x v6 v7 h) σ h)
noncomputable def c14 : Code := cL c5
@[simp] def n5 {R : Type} (k : Nat) (G : KT2 R) (v2 v6 v7 : GV) (h : Heap) : Option R := n6 k G v2 v6 v7 (.int .i64 0) h
theorem n5_eq0 {R : Type} (k : Nat) (G : KT2 R) (σ : GS) (h : Heap) : KC k 35 c14 σ h (fun x σ h => kx x (n6 k G (σ 2) (σ 6) (σ 7) (σ 8) h) (G x (σ 6) (σ 7) h)) = n5 k G (σ 2) (σ 6) (σ 7) h := by kernel_rfl
theorem n5_eq {R : Type} (k : Nat) (G : KT2 R) (σ : GS) (h : Heap) : KC k 35 c5 σ h (fun x σ h => G x (σ 6) (σ 7) h) = n5 k G (σ 2) (σ 6) (σ 7) h := (kseq (b := c6) rfl (fun σ h => n6_eq k G σ h)).trans (n5_eq0 k G σ h)
@[simp] def n3 {R : Type} (k : Nat) (G : KT1 R) (v2 v6 v7 : GV) (h : Heap) : Option R := n5 k (fun x v6 v7 h => kx x (n4 k G v7 h) (G x v6 h)) v2 v6 v7 h
theorem n3_eq {R : Type} (k : Nat) (G : KT1 R) (σ : GS) (h : Heap) : KC k 35 c3 σ h (fun x σ h => G x (σ 6) h) = n3 k G (σ 2) (σ 6) (σ 7) h := (kseq (b := c4) rfl (fun σ h => n4_eq k G σ h)).trans (n5_eq k (fun x v6 v7 h => kx x (n4 k G v7 h) (G x v6 h)) σ h)
noncomputable def c15 : Code := cL c2
@[simp] def n2 {R : Type} (k : Nat) (G : KT1 R) (v0 v1 v2 v6 : GV) (h : Heap) : Option R := (kN NN fn.spec_l14Begin [v0, v1, (.int .i64 5)] h).bind fun v17 => (klenS v2).bind fun v19 => (kN NN fn.spec_Mix [v17, v19] h).bind fun v20 => n3 k G v2 v6 v20 h
theorem n2_eq0 {R : Type} (k : Nat) (G : KT1 R) (σ : GS) (h : Heap) : KC k 35 c15 σ h (fun x σ h => kx x (n3 k G (σ 2) (σ 6) (σ 7) h) (G x (σ 6) h)) = n2 k G (σ 0) (σ 1) (σ 2) (σ 6) h := by kernel_rfl
theorem n2_eq {R : Type} (k : Nat) (G : KT1 R) (σ : GS) (h : Heap) : KC k 35 c2 σ h (fun x σ h => G x (σ 6) h) = n2 k G (σ 0) (σ 1) (σ 2) (σ 6) h := (kseq (b := c3) rfl (fun σ h => n3_eq k G σ h)).trans (n2_eq0 k G σ h)
noncomputable def c16 : Code := cL c1
@[simp] def n1 {R : Type} (k : Nat) (G : KT1 R) (v0 v1 v2 v6 : GV) (h : Heap) : Option R := (klenS v2).bind fun v12 => (kN NN fn.spec_l14Told [v0, v1, v12] h).bind fun v13 => (kun .not v13).bind fun v14 => kcond v14 (G .ret (.int .i64 (-1)) h) (n2 k G v0 v1 v2 v6 h)
theorem n1_eq0 {R : Type} (k : Nat) (G : KT1 R) (σ : GS) (h : Heap) : KC k 35 c16 σ h (fun x σ h => kx x (n2 k G (σ 0) (σ 1) (σ 2) (σ 6) h) (G x (σ 6) h)) = n1 k G (σ 0) (σ 1) (σ 2) (σ 6) h := by kernel_rfl
theorem n1_eq {R : Type} (k : Nat) (G : KT1 R) (σ : GS) (h : Heap) : KC k 35 c1 σ h (fun x σ h => G x (σ 6) h) = n1 k G (σ 0) (σ 1) (σ 2) (σ 6) h := (kseq (b := c2) rfl (fun σ h => n2_eq k G σ h)).trans (n1_eq0 k G σ h)
noncomputable def c17 : Code := cL c0
@[simp] def n0 {R : Type} (k : Nat) (G : KT1 R) (v0 v1 v2 : GV) (h : Heap) : Option R := n1 k G v0 v1 v2 (.int .i64 0) h
theorem n0_eq0 {R : Type} (k : Nat) (G : KT1 R) (σ : GS) (h : Heap) : KC k 35 c17 σ h (fun x σ h => kx x (n1 k G (σ 0) (σ 1) (σ 2) (σ 6) h) (G x (σ 6) h)) = n0 k G (σ 0) (σ 1) (σ 2) h := by kernel_rfl
theorem n0_eq {R : Type} (k : Nat) (G : KT1 R) (σ : GS) (h : Heap) : KC k 35 c0 σ h (fun x σ h => G x (σ 6) h) = n0 k G (σ 0) (σ 1) (σ 2) h := (kseq (b := c1) rfl (fun σ h => n1_eq k G σ h)).trans (n0_eq0 k G σ h)
def run {R : Type} (k : Nat) (a0 : GV) (a1 : GV) (a2 : GV) (h : Heap) (fin : GV → Heap → Option R) : Option R := n0 k (fun x v6 h => kend x (fin v6 h)) a0 a1 a2 h
theorem run_eq {R : Type} (k : Nat) (a0 : GV) (a1 : GV) (a2 : GV) (h : Heap) (fin : GV → Heap → Option R) : kfun PP cfg NN HH k fn.spec_Mark [a0, a1, a2] h fin = run k a0 a1 a2 h fin := (kfun_eq (nt := 35) (c := c0) (show PP.funcs[fn.spec_Mark]? = some Tryd.f37 by kernel_rfl) (by kernel_rfl) (by kernel_rfl) (fun x σ h => by cases x <;> kernel_rfl)).trans (n0_eq k (fun x v6 h => kend x (fin v6 h)) _ h)
theorem gives {k : Nat} {a0 : GV} {a1 : GV} {a2 : GV} {v : GV} (e : run k a0 a1 a2 [] finN = some v) : NN fn.spec_Mark [a0, a1, a2] = some v := nω_of (by kernel_rfl) ((run_eq k a0 a1 a2 [] finN).trans e)
end S.spec_Mark
/-! impl_Mix -/
namespace S.impl_Mix
noncomputable def c0 : Code := bodyOf Tryd.f38
noncomputable def c1 : Code := cR c0
noncomputable def c2 : Code := cR c1
noncomputable def c3 : Code := cR c2
@[simp] def n3 {R : Type} (k : Nat) (G : KT1 R) (v5 : GV) (h : Heap) : Option R := G .ret v5 h
theorem n3_eq {R : Type} (k : Nat) (G : KT1 R) (σ : GS) (h : Heap) : KC k 23 c3 σ h (fun x σ h => G x (σ 4) h) = n3 k G (σ 5) h := by kernel_rfl
noncomputable def c4 : Code := cL c2
noncomputable def c5 : Code := cR c4
noncomputable def c6 : Code := cL c5
noncomputable def c7 : Code := cL c6
noncomputable def c8 : Code := cR c7
noncomputable def c9 : Code := cR c8
noncomputable def c10 : Code := cR c9
@[simp] def n10 {R : Type} (k : Nat) (G : KT4 R) (v4 v5 v6 v13 : GV) (h : Heap) : Option R := (kbin .add v13 (.int .i64 1)).bind fun v21 => G .nrm v4 v5 v6 v21 h
theorem n10_eq {R : Type} (k : Nat) (G : KT4 R) (σ : GS) (h : Heap) : KC k 23 c10 σ h (fun x σ h => G x (σ 4) (σ 5) (σ 6) (σ 13) h) = n10 k G (σ 4) (σ 5) (σ 6) (σ 13) h := by kernel_rfl
noncomputable def c11 : Code := cL c9
noncomputable def c12 : Code := cL c11
@[simp] def n12 {R : Type} (k : Nat) (G : KT4 R) (v4 v5 v6 v13 : GV) (h : Heap) : Option R := (kbin .mul v5 (.int .i64 48271)).bind fun v16 => (kbin .add v16 v6).bind fun v18 => (kbin .add v18 (.int .i64 11)).bind fun v19 => (kbin .rem v19 (.int .i64 2147483647)).bind fun v20 => G .nrm v4 v20 v6 v13 h
theorem n12_eq {R : Type} (k : Nat) (G : KT4 R) (σ : GS) (h : Heap) : KC k 23 c12 σ h (fun x σ h => G x (σ 4) (σ 5) (σ 6) (σ 13) h) = n12 k G (σ 4) (σ 5) (σ 6) (σ 13) h := by kernel_rfl
@[simp] def n11 {R : Type} (k : Nat) (G : KT4 R) (v4 v5 v6 v13 : GV) (h : Heap) : Option R := n12 k (fun x v4 v5 v6 v13 h => kb 1 x fun x => G x v4 v5 v6 v13 h) v4 v5 v6 v13 h
theorem n11_eq {R : Type} (k : Nat) (G : KT4 R) (σ : GS) (h : Heap) : KC k 23 c11 σ h (fun x σ h => G x (σ 4) (σ 5) (σ 6) (σ 13) h) = n11 k G (σ 4) (σ 5) (σ 6) (σ 13) h := (kblock_eq (a := c12) rfl).trans (n12_eq k (fun x v4 v5 v6 v13 h => kb 1 x fun x => G x v4 v5 v6 v13 h) σ h)
@[simp] def n9 {R : Type} (k : Nat) (G : KT4 R) (v4 v5 v6 v13 : GV) (h : Heap) : Option R := n11 k (fun x v4 v5 v6 v13 h => kx x (n10 k G v4 v5 v6 v13 h) (G x v4 v5 v6 v13 h)) v4 v5 v6 v13 h
theorem n9_eq {R : Type} (k : Nat) (G : KT4 R) (σ : GS) (h : Heap) : KC k 23 c9 σ h (fun x σ h => G x (σ 4) (σ 5) (σ 6) (σ 13) h) = n9 k G (σ 4) (σ 5) (σ 6) (σ 13) h := (kseq (b := c10) rfl (fun σ h => n10_eq k G σ h)).trans (n11_eq k (fun x v4 v5 v6 v13 h => kx x (n10 k G v4 v5 v6 v13 h) (G x v4 v5 v6 v13 h)) σ h)
noncomputable def c13 : Code := cL c8
@[simp] def n8 {R : Type} (k : Nat) (G : KT4 R) (v4 v5 v6 v13 v14 : GV) (h : Heap) : Option R := kcond v14 (n9 k G v4 v5 v6 v13 h) (G (.ext 0) v4 v5 v6 v13 h)
theorem n8_eq0 {R : Type} (k : Nat) (G : KT4 R) (σ : GS) (h : Heap) : KC k 23 c13 σ h (fun x σ h => kx x (n9 k G (σ 4) (σ 5) (σ 6) (σ 13) h) (G x (σ 4) (σ 5) (σ 6) (σ 13) h)) = n8 k G (σ 4) (σ 5) (σ 6) (σ 13) (σ 14) h := by kernel_rfl
theorem n8_eq {R : Type} (k : Nat) (G : KT4 R) (σ : GS) (h : Heap) : KC k 23 c8 σ h (fun x σ h => G x (σ 4) (σ 5) (σ 6) (σ 13) h) = n8 k G (σ 4) (σ 5) (σ 6) (σ 13) (σ 14) h := (kseq (b := c9) rfl (fun σ h => n9_eq k G σ h)).trans (n8_eq0 k G σ h)
noncomputable def c14 : Code := cL c7
@[simp] def n7 {R : Type} (k : Nat) (G : KT4 R) (v4 v5 v6 v13 : GV) (h : Heap) : Option R := (kbin .lss v13 (.int .i64 4)).bind fun v14 => n8 k G v4 v5 v6 v13 v14 h
theorem n7_eq0 {R : Type} (k : Nat) (G : KT4 R) (σ : GS) (h : Heap) : KC k 23 c14 σ h (fun x σ h => kx x (n8 k G (σ 4) (σ 5) (σ 6) (σ 13) (σ 14) h) (G x (σ 4) (σ 5) (σ 6) (σ 13) h)) = n7 k G (σ 4) (σ 5) (σ 6) (σ 13) h := by kernel_rfl
theorem n7_eq {R : Type} (k : Nat) (G : KT4 R) (σ : GS) (h : Heap) : KC k 23 c7 σ h (fun x σ h => G x (σ 4) (σ 5) (σ 6) (σ 13) h) = n7 k G (σ 4) (σ 5) (σ 6) (σ 13) h := (kseq (b := c8) rfl (fun σ h => n8_eq k G σ h)).trans (n7_eq0 k G σ h)
def l6 {R : Type} (k : Nat) (G : KT2 R) : Nat → GV → GV → GV → GV → Heap → Option R
  | 0, _, _, _, _, _ => none
  | r + 1, v4, v5, v6, v13, h => n7 k (fun x v4 v5 v6 v13 h => kx x (l6 k G r v4 v5 v6 v13 h) (G x v4 v5 h)) v4 v5 v6 v13 h
theorem l6_eq {R : Type} (k : Nat) (G : KT2 R) : ∀ (r : Nat) (σ : GS) (h : Heap), kloop (fun σ h K => KC k 23 c7 σ h K) r σ h (fun x σ h => G x (σ 4) (σ 5) h) = l6 k G r (σ 4) (σ 5) (σ 6) (σ 13) h
  | 0, _, _ => rfl
  | r + 1, σ, h => (kloop_eq (fun σ h => l6_eq k G r σ h)).trans (n7_eq k (fun x v4 v5 v6 v13 h => kx x (l6 k G r v4 v5 v6 v13 h) (G x v4 v5 h)) σ h)
@[simp] def n6 {R : Type} (k : Nat) (G : KT2 R) (v4 v5 v6 v13 : GV) (h : Heap) : Option R := l6 k G k v4 v5 v6 v13 h
theorem n6_eq {R : Type} (k : Nat) (G : KT2 R) (σ : GS) (h : Heap) : KC k 23 c6 σ h (fun x σ h => G x (σ 4) (σ 5) h) = n6 k G (σ 4) (σ 5) (σ 6) (σ 13) h := (kloopc_eq (a := c7) rfl).trans (l6_eq k G k σ h)
@[simp] def n5 {R : Type} (k : Nat) (G : KT2 R) (v4 v5 v6 v13 : GV) (h : Heap) : Option R := n6 k (fun x v4 v5 h => kb 0 x fun x => G x v4 v5 h) v4 v5 v6 v13 h
theorem n5_eq {R : Type} (k : Nat) (G : KT2 R) (σ : GS) (h : Heap) : KC k 23 c5 σ h (fun x σ h => G x (σ 4) (σ 5) h) = n5 k G (σ 4) (σ 5) (σ 6) (σ 13) h := (kblock_eq (a := c6) rfl).trans (n6_eq k (fun x v4 v5 h => kb 0 x fun x => G x v4 v5 h) σ h)
noncomputable def c15 : Code := cL c4
@[simp] def n4 {R : Type} (k : Nat) (G : KT2 R) (v4 v5 v6 : GV) (h : Heap) : Option R := n5 k G v4 v5 v6 (.int .i64 0) h
theorem n4_eq0 {R : Type} (k : Nat) (G : KT2 R) (σ : GS) (h : Heap) : KC k 23 c15 σ h (fun x σ h => kx x (n5 k G (σ 4) (σ 5) (σ 6) (σ 13) h) (G x (σ 4) (σ 5) h)) = n4 k G (σ 4) (σ 5) (σ 6) h := by kernel_rfl
theorem n4_eq {R : Type} (k : Nat) (G : KT2 R) (σ : GS) (h : Heap) : KC k 23 c4 σ h (fun x σ h => G x (σ 4) (σ 5) h) = n4 k G (σ 4) (σ 5) (σ 6) h := (kseq (b := c5) rfl (fun σ h => n5_eq k G σ h)).trans (n4_eq0 k G σ h)
@[simp] def n2 {R : Type} (k : Nat) (G : KT1 R) (v4 v5 v6 : GV) (h : Heap) : Option R := n4 k (fun x v4 v5 h => kx x (n3 k G v5 h) (G x v4 h)) v4 v5 v6 h
theorem n2_eq {R : Type} (k : Nat) (G : KT1 R) (σ : GS) (h : Heap) : KC k 23 c2 σ h (fun x σ h => G x (σ 4) h) = n2 k G (σ 4) (σ 5) (σ 6) h := (kseq (b := c3) rfl (fun σ h => n3_eq k G σ h)).trans (n4_eq k (fun x v4 v5 h => kx x (n3 k G v5 h) (G x v4 h)) σ h)
noncomputable def c16 : Code := cL c1
@[simp] def n1 {R : Type} (k : Nat) (G : KT1 R) (v0 v1 v4 : GV) (h : Heap) : Option R := (gmax v0 (.int .i64 0)).bind fun v8 => (kbin .rem v8 (.int .i64 2147483647)).bind fun v9 => (gmax v1 (.int .i64 0)).bind fun v11 => (kbin .rem v11 (.int .i64 2147483647)).bind fun v12 => n2 k G v4 v9 v12 h
theorem n1_eq0 {R : Type} (k : Nat) (G : KT1 R) (σ : GS) (h : Heap) : KC k 23 c16 σ h (fun x σ h => kx x (n2 k G (σ 4) (σ 5) (σ 6) h) (G x (σ 4) h)) = n1 k G (σ 0) (σ 1) (σ 4) h := by kernel_rfl
theorem n1_eq {R : Type} (k : Nat) (G : KT1 R) (σ : GS) (h : Heap) : KC k 23 c1 σ h (fun x σ h => G x (σ 4) h) = n1 k G (σ 0) (σ 1) (σ 4) h := (kseq (b := c2) rfl (fun σ h => n2_eq k G σ h)).trans (n1_eq0 k G σ h)
noncomputable def c17 : Code := cL c0
@[simp] def n0 {R : Type} (k : Nat) (G : KT1 R) (v0 v1 : GV) (h : Heap) : Option R := n1 k G v0 v1 (.int .i64 0) h
theorem n0_eq0 {R : Type} (k : Nat) (G : KT1 R) (σ : GS) (h : Heap) : KC k 23 c17 σ h (fun x σ h => kx x (n1 k G (σ 0) (σ 1) (σ 4) h) (G x (σ 4) h)) = n0 k G (σ 0) (σ 1) h := by kernel_rfl
theorem n0_eq {R : Type} (k : Nat) (G : KT1 R) (σ : GS) (h : Heap) : KC k 23 c0 σ h (fun x σ h => G x (σ 4) h) = n0 k G (σ 0) (σ 1) h := (kseq (b := c1) rfl (fun σ h => n1_eq k G σ h)).trans (n0_eq0 k G σ h)
def run {R : Type} (k : Nat) (a0 : GV) (a1 : GV) (h : Heap) (fin : GV → Heap → Option R) : Option R := n0 k (fun x v4 h => kend x (fin v4 h)) a0 a1 h
theorem run_eq {R : Type} (k : Nat) (a0 : GV) (a1 : GV) (h : Heap) (fin : GV → Heap → Option R) : kfun PP cfg NN HH k fn.impl_Mix [a0, a1] h fin = run k a0 a1 h fin := (kfun_eq (nt := 23) (c := c0) (show PP.funcs[fn.impl_Mix]? = some Tryd.f38 by kernel_rfl) (by kernel_rfl) (by kernel_rfl) (fun x σ h => by cases x <;> kernel_rfl)).trans (n0_eq k (fun x v4 h => kend x (fin v4 h)) _ h)
theorem gives {k : Nat} {a0 : GV} {a1 : GV} {v : GV} (e : run k a0 a1 [] finN = some v) : NN fn.impl_Mix [a0, a1] = some v := nω_of (by kernel_rfl) ((run_eq k a0 a1 [] finN).trans e)
end S.impl_Mix
/-! spec_Mix -/
namespace S.spec_Mix
noncomputable def c0 : Code := bodyOf Tryd.f39
noncomputable def c1 : Code := cR c0
noncomputable def c2 : Code := cR c1
noncomputable def c3 : Code := cR c2
@[simp] def n3 {R : Type} (k : Nat) (G : KT1 R) (v5 : GV) (h : Heap) : Option R := G .ret v5 h
theorem n3_eq {R : Type} (k : Nat) (G : KT1 R) (σ : GS) (h : Heap) : KC k 23 c3 σ h (fun x σ h => G x (σ 4) h) = n3 k G (σ 5) h := by kernel_rfl
noncomputable def c4 : Code := cL c2
noncomputable def c5 : Code := cR c4
noncomputable def c6 : Code := cL c5
noncomputable def c7 : Code := cL c6
noncomputable def c8 : Code := cR c7
noncomputable def c9 : Code := cR c8
@[simp] def n9 {R : Type} (k : Nat) (G : KT4 R) (v1 v4 v5 v6 : GV) (h : Heap) : Option R := (kbin .add v6 (.int .i64 1)).bind fun v13 => G .nrm v1 v4 v5 v13 h
theorem n9_eq {R : Type} (k : Nat) (G : KT4 R) (σ : GS) (h : Heap) : KC k 23 c9 σ h (fun x σ h => G x (σ 1) (σ 4) (σ 5) (σ 6) h) = n9 k G (σ 1) (σ 4) (σ 5) (σ 6) h := by kernel_rfl
noncomputable def c10 : Code := cL c8
noncomputable def c11 : Code := cL c10
@[simp] def n11 {R : Type} (k : Nat) (G : KT4 R) (v1 v4 v5 v6 : GV) (h : Heap) : Option R := (kbin .mul v5 (.int .i64 48271)).bind fun v15 => (kN NN fn.spec_l1Max [(.int .i64 0), v1] h).bind fun v17 => (kbin .rem v17 (.int .i64 2147483647)).bind fun v18 => (kbin .add v15 v18).bind fun v19 => (kbin .add v19 (.int .i64 11)).bind fun v20 => (kbin .rem v20 (.int .i64 2147483647)).bind fun v21 => G .nrm v1 v4 v21 v6 h
theorem n11_eq {R : Type} (k : Nat) (G : KT4 R) (σ : GS) (h : Heap) : KC k 23 c11 σ h (fun x σ h => G x (σ 1) (σ 4) (σ 5) (σ 6) h) = n11 k G (σ 1) (σ 4) (σ 5) (σ 6) h := by kernel_rfl
@[simp] def n10 {R : Type} (k : Nat) (G : KT4 R) (v1 v4 v5 v6 : GV) (h : Heap) : Option R := n11 k (fun x v1 v4 v5 v6 h => kb 1 x fun x => G x v1 v4 v5 v6 h) v1 v4 v5 v6 h
theorem n10_eq {R : Type} (k : Nat) (G : KT4 R) (σ : GS) (h : Heap) : KC k 23 c10 σ h (fun x σ h => G x (σ 1) (σ 4) (σ 5) (σ 6) h) = n10 k G (σ 1) (σ 4) (σ 5) (σ 6) h := (kblock_eq (a := c11) rfl).trans (n11_eq k (fun x v1 v4 v5 v6 h => kb 1 x fun x => G x v1 v4 v5 v6 h) σ h)
@[simp] def n8 {R : Type} (k : Nat) (G : KT4 R) (v1 v4 v5 v6 : GV) (h : Heap) : Option R := n10 k (fun x v1 v4 v5 v6 h => kx x (n9 k G v1 v4 v5 v6 h) (G x v1 v4 v5 v6 h)) v1 v4 v5 v6 h
theorem n8_eq {R : Type} (k : Nat) (G : KT4 R) (σ : GS) (h : Heap) : KC k 23 c8 σ h (fun x σ h => G x (σ 1) (σ 4) (σ 5) (σ 6) h) = n8 k G (σ 1) (σ 4) (σ 5) (σ 6) h := (kseq (b := c9) rfl (fun σ h => n9_eq k G σ h)).trans (n10_eq k (fun x v1 v4 v5 v6 h => kx x (n9 k G v1 v4 v5 v6 h) (G x v1 v4 v5 v6 h)) σ h)
noncomputable def c12 : Code := cL c7
@[simp] def n7 {R : Type} (k : Nat) (G : KT4 R) (v1 v4 v5 v6 : GV) (h : Heap) : Option R := (kbin .lss v6 (.int .i64 4)).bind fun v11 => kcond v11 (n8 k G v1 v4 v5 v6 h) (G (.ext 0) v1 v4 v5 v6 h)
theorem n7_eq0 {R : Type} (k : Nat) (G : KT4 R) (σ : GS) (h : Heap) : KC k 23 c12 σ h (fun x σ h => kx x (n8 k G (σ 1) (σ 4) (σ 5) (σ 6) h) (G x (σ 1) (σ 4) (σ 5) (σ 6) h)) = n7 k G (σ 1) (σ 4) (σ 5) (σ 6) h := by kernel_rfl
theorem n7_eq {R : Type} (k : Nat) (G : KT4 R) (σ : GS) (h : Heap) : KC k 23 c7 σ h (fun x σ h => G x (σ 1) (σ 4) (σ 5) (σ 6) h) = n7 k G (σ 1) (σ 4) (σ 5) (σ 6) h := (kseq (b := c8) rfl (fun σ h => n8_eq k G σ h)).trans (n7_eq0 k G σ h)
def l6 {R : Type} (k : Nat) (G : KT2 R) : Nat → GV → GV → GV → GV → Heap → Option R
  | 0, _, _, _, _, _ => none
  | r + 1, v1, v4, v5, v6, h => n7 k (fun x v1 v4 v5 v6 h => kx x (l6 k G r v1 v4 v5 v6 h) (G x v4 v5 h)) v1 v4 v5 v6 h
theorem l6_eq {R : Type} (k : Nat) (G : KT2 R) : ∀ (r : Nat) (σ : GS) (h : Heap), kloop (fun σ h K => KC k 23 c7 σ h K) r σ h (fun x σ h => G x (σ 4) (σ 5) h) = l6 k G r (σ 1) (σ 4) (σ 5) (σ 6) h
  | 0, _, _ => rfl
  | r + 1, σ, h => (kloop_eq (fun σ h => l6_eq k G r σ h)).trans (n7_eq k (fun x v1 v4 v5 v6 h => kx x (l6 k G r v1 v4 v5 v6 h) (G x v4 v5 h)) σ h)
@[simp] def n6 {R : Type} (k : Nat) (G : KT2 R) (v1 v4 v5 v6 : GV) (h : Heap) : Option R := l6 k G k v1 v4 v5 v6 h
theorem n6_eq {R : Type} (k : Nat) (G : KT2 R) (σ : GS) (h : Heap) : KC k 23 c6 σ h (fun x σ h => G x (σ 4) (σ 5) h) = n6 k G (σ 1) (σ 4) (σ 5) (σ 6) h := (kloopc_eq (a := c7) rfl).trans (l6_eq k G k σ h)
@[simp] def n5 {R : Type} (k : Nat) (G : KT2 R) (v1 v4 v5 v6 : GV) (h : Heap) : Option R := n6 k (fun x v4 v5 h => kb 0 x fun x => G x v4 v5 h) v1 v4 v5 v6 h
theorem n5_eq {R : Type} (k : Nat) (G : KT2 R) (σ : GS) (h : Heap) : KC k 23 c5 σ h (fun x σ h => G x (σ 4) (σ 5) h) = n5 k G (σ 1) (σ 4) (σ 5) (σ 6) h := (kblock_eq (a := c6) rfl).trans (n6_eq k (fun x v4 v5 h => kb 0 x fun x => G x v4 v5 h) σ h)
noncomputable def c13 : Code := cL c4
@[simp] def n4 {R : Type} (k : Nat) (G : KT2 R) (v1 v4 v5 : GV) (h : Heap) : Option R := n5 k G v1 v4 v5 (.int .i64 0) h
theorem n4_eq0 {R : Type} (k : Nat) (G : KT2 R) (σ : GS) (h : Heap) : KC k 23 c13 σ h (fun x σ h => kx x (n5 k G (σ 1) (σ 4) (σ 5) (σ 6) h) (G x (σ 4) (σ 5) h)) = n4 k G (σ 1) (σ 4) (σ 5) h := by kernel_rfl
theorem n4_eq {R : Type} (k : Nat) (G : KT2 R) (σ : GS) (h : Heap) : KC k 23 c4 σ h (fun x σ h => G x (σ 4) (σ 5) h) = n4 k G (σ 1) (σ 4) (σ 5) h := (kseq (b := c5) rfl (fun σ h => n5_eq k G σ h)).trans (n4_eq0 k G σ h)
@[simp] def n2 {R : Type} (k : Nat) (G : KT1 R) (v1 v4 v5 : GV) (h : Heap) : Option R := n4 k (fun x v4 v5 h => kx x (n3 k G v5 h) (G x v4 h)) v1 v4 v5 h
theorem n2_eq {R : Type} (k : Nat) (G : KT1 R) (σ : GS) (h : Heap) : KC k 23 c2 σ h (fun x σ h => G x (σ 4) h) = n2 k G (σ 1) (σ 4) (σ 5) h := (kseq (b := c3) rfl (fun σ h => n3_eq k G σ h)).trans (n4_eq k (fun x v4 v5 h => kx x (n3 k G v5 h) (G x v4 h)) σ h)
noncomputable def c14 : Code := cL c1
@[simp] def n1 {R : Type} (k : Nat) (G : KT1 R) (v0 v1 v4 : GV) (h : Heap) : Option R := (kN NN fn.spec_l1Max [(.int .i64 0), v0] h).bind fun v8 => (kbin .rem v8 (.int .i64 2147483647)).bind fun v9 => n2 k G v1 v4 v9 h
theorem n1_eq0 {R : Type} (k : Nat) (G : KT1 R) (σ : GS) (h : Heap) : KC k 23 c14 σ h (fun x σ h => kx x (n2 k G (σ 1) (σ 4) (σ 5) h) (G x (σ 4) h)) = n1 k G (σ 0) (σ 1) (σ 4) h := by kernel_rfl
theorem n1_eq {R : Type} (k : Nat) (G : KT1 R) (σ : GS) (h : Heap) : KC k 23 c1 σ h (fun x σ h => G x (σ 4) h) = n1 k G (σ 0) (σ 1) (σ 4) h := (kseq (b := c2) rfl (fun σ h => n2_eq k G σ h)).trans (n1_eq0 k G σ h)
noncomputable def c15 : Code := cL c0
@[simp] def n0 {R : Type} (k : Nat) (G : KT1 R) (v0 v1 : GV) (h : Heap) : Option R := n1 k G v0 v1 (.int .i64 0) h
theorem n0_eq0 {R : Type} (k : Nat) (G : KT1 R) (σ : GS) (h : Heap) : KC k 23 c15 σ h (fun x σ h => kx x (n1 k G (σ 0) (σ 1) (σ 4) h) (G x (σ 4) h)) = n0 k G (σ 0) (σ 1) h := by kernel_rfl
theorem n0_eq {R : Type} (k : Nat) (G : KT1 R) (σ : GS) (h : Heap) : KC k 23 c0 σ h (fun x σ h => G x (σ 4) h) = n0 k G (σ 0) (σ 1) h := (kseq (b := c1) rfl (fun σ h => n1_eq k G σ h)).trans (n0_eq0 k G σ h)
def run {R : Type} (k : Nat) (a0 : GV) (a1 : GV) (h : Heap) (fin : GV → Heap → Option R) : Option R := n0 k (fun x v4 h => kend x (fin v4 h)) a0 a1 h
theorem run_eq {R : Type} (k : Nat) (a0 : GV) (a1 : GV) (h : Heap) (fin : GV → Heap → Option R) : kfun PP cfg NN HH k fn.spec_Mix [a0, a1] h fin = run k a0 a1 h fin := (kfun_eq (nt := 23) (c := c0) (show PP.funcs[fn.spec_Mix]? = some Tryd.f39 by kernel_rfl) (by kernel_rfl) (by kernel_rfl) (fun x σ h => by cases x <;> kernel_rfl)).trans (n0_eq k (fun x v4 h => kend x (fin v4 h)) _ h)
theorem gives {k : Nat} {a0 : GV} {a1 : GV} {v : GV} (e : run k a0 a1 [] finN = some v) : NN fn.spec_Mix [a0, a1] = some v := nω_of (by kernel_rfl) ((run_eq k a0 a1 [] finN).trans e)
end S.spec_Mix
/-! impl_Stream -/
namespace S.impl_Stream
noncomputable def c0 : Code := bodyOf Tryd.f40
noncomputable def c1 : Code := cR c0
noncomputable def c2 : Code := cR c1
noncomputable def c3 : Code := cR c2
noncomputable def c4 : Code := cR c3
@[simp] def n4 {R : Type} (k : Nat) (G : KT1 R) (v7 : GV) (h : Heap) : Option R := (kbstr h v7).bind fun v31 => G .ret v31 h
theorem n4_eq {R : Type} (k : Nat) (G : KT1 R) (σ : GS) (h : Heap) : KC k 32 c4 σ h (fun x σ h => G x (σ 6) h) = n4 k G (σ 7) h := by kernel_rfl
noncomputable def c5 : Code := cL c3
noncomputable def c6 : Code := cR c5
noncomputable def c7 : Code := cL c6
noncomputable def c8 : Code := cL c7
noncomputable def c9 : Code := cR c8
noncomputable def c10 : Code := cR c9
noncomputable def c11 : Code := cR c10
@[simp] def n11 {R : Type} (k : Nat) (G : KT5 R) (v6 v7 v8 v18 v19 : GV) (h : Heap) : Option R := (kbin .add v19 (.int .i64 1)).bind fun v29 => G .nrm v6 v7 v8 v18 v29 h
theorem n11_eq {R : Type} (k : Nat) (G : KT5 R) (σ : GS) (h : Heap) : KC k 32 c11 σ h (fun x σ h => G x (σ 6) (σ 7) (σ 8) (σ 18) (σ 19) h) = n11 k G (σ 6) (σ 7) (σ 8) (σ 18) (σ 19) h := by kernel_rfl
noncomputable def c12 : Code := cL c10
noncomputable def c13 : Code := cL c12
@[simp] def n13 {R : Type} (k : Nat) (G : KT5 R) (v6 v7 v8 v18 v19 : GV) (h : Heap) : Option R := (kN NN fn.impl_Mix [v8, (.int .i64 7)] h).bind fun v22 => (kbin .rem v22 (.int .i64 256)).bind fun v25 => (kconvI .u8 v25).bind fun v26 => (gfill (fun i => some (i * 1, 1)) (zeros [(.int .u8 0)] 1) [(0, v26)]).bind fun c => kbs 1 1 c h fun v27 h => (kapp [(.int .u8 0)] 1 1 v7 v27 h).bind fun r => kr r fun v28 h => G .nrm v6 v28 v22 v18 v19 h
theorem n13_eq {R : Type} (k : Nat) (G : KT5 R) (σ : GS) (h : Heap) : KC k 32 c13 σ h (fun x σ h => G x (σ 6) (σ 7) (σ 8) (σ 18) (σ 19) h) = n13 k G (σ 6) (σ 7) (σ 8) (σ 18) (σ 19) h := by kernel_rfl
@[simp] def n12 {R : Type} (k : Nat) (G : KT5 R) (v6 v7 v8 v18 v19 : GV) (h : Heap) : Option R := n13 k (fun x v6 v7 v8 v18 v19 h => kb 1 x fun x => G x v6 v7 v8 v18 v19 h) v6 v7 v8 v18 v19 h
theorem n12_eq {R : Type} (k : Nat) (G : KT5 R) (σ : GS) (h : Heap) : KC k 32 c12 σ h (fun x σ h => G x (σ 6) (σ 7) (σ 8) (σ 18) (σ 19) h) = n12 k G (σ 6) (σ 7) (σ 8) (σ 18) (σ 19) h := (kblock_eq (a := c13) rfl).trans (n13_eq k (fun x v6 v7 v8 v18 v19 h => kb 1 x fun x => G x v6 v7 v8 v18 v19 h) σ h)
@[simp] def n10 {R : Type} (k : Nat) (G : KT5 R) (v6 v7 v8 v18 v19 : GV) (h : Heap) : Option R := n12 k (fun x v6 v7 v8 v18 v19 h => kx x (n11 k G v6 v7 v8 v18 v19 h) (G x v6 v7 v8 v18 v19 h)) v6 v7 v8 v18 v19 h
theorem n10_eq {R : Type} (k : Nat) (G : KT5 R) (σ : GS) (h : Heap) : KC k 32 c10 σ h (fun x σ h => G x (σ 6) (σ 7) (σ 8) (σ 18) (σ 19) h) = n10 k G (σ 6) (σ 7) (σ 8) (σ 18) (σ 19) h := (kseq (b := c11) rfl (fun σ h => n11_eq k G σ h)).trans (n12_eq k (fun x v6 v7 v8 v18 v19 h => kx x (n11 k G v6 v7 v8 v18 v19 h) (G x v6 v7 v8 v18 v19 h)) σ h)
noncomputable def c14 : Code := cL c9
@[simp] def n9 {R : Type} (k : Nat) (G : KT5 R) (v6 v7 v8 v18 v19 v20 : GV) (h : Heap) : Option R := kcond v20 (n10 k G v6 v7 v8 v18 v19 h) (G (.ext 0) v6 v7 v8 v18 v19 h)
theorem n9_eq0 {R : Type} (k : Nat) (G : KT5 R) (σ : GS) (h : Heap) : KC k 32 c14 σ h (fun x σ h => kx x (n10 k G (σ 6) (σ 7) (σ 8) (σ 18) (σ 19) h) (G x (σ 6) (σ 7) (σ 8) (σ 18) (σ 19) h)) = n9 k G (σ 6) (σ 7) (σ 8) (σ 18) (σ 19) (σ 20) h := by kernel_rfl
theorem n9_eq {R : Type} (k : Nat) (G : KT5 R) (σ : GS) (h : Heap) : KC k 32 c9 σ h (fun x σ h => G x (σ 6) (σ 7) (σ 8) (σ 18) (σ 19) h) = n9 k G (σ 6) (σ 7) (σ 8) (σ 18) (σ 19) (σ 20) h := (kseq (b := c10) rfl (fun σ h => n10_eq k G σ h)).trans (n9_eq0 k G σ h)
noncomputable def c15 : Code := cL c8
@[simp] def n8 {R : Type} (k : Nat) (G : KT5 R) (v6 v7 v8 v18 v19 : GV) (h : Heap) : Option R := (kbin .lss v19 v18).bind fun v20 => n9 k G v6 v7 v8 v18 v19 v20 h
theorem n8_eq0 {R : Type} (k : Nat) (G : KT5 R) (σ : GS) (h : Heap) : KC k 32 c15 σ h (fun x σ h => kx x (n9 k G (σ 6) (σ 7) (σ 8) (σ 18) (σ 19) (σ 20) h) (G x (σ 6) (σ 7) (σ 8) (σ 18) (σ 19) h)) = n8 k G (σ 6) (σ 7) (σ 8) (σ 18) (σ 19) h := by kernel_rfl
theorem n8_eq {R : Type} (k : Nat) (G : KT5 R) (σ : GS) (h : Heap) : KC k 32 c8 σ h (fun x σ h => G x (σ 6) (σ 7) (σ 8) (σ 18) (σ 19) h) = n8 k G (σ 6) (σ 7) (σ 8) (σ 18) (σ 19) h := (kseq (b := c9) rfl (fun σ h => n9_eq k G σ h)).trans (n8_eq0 k G σ h)
def l7 {R : Type} (k : Nat) (G : KT2 R) : Nat → GV → GV → GV → GV → GV → Heap → Option R
  | 0, _, _, _, _, _, _ => none
  | r + 1, v6, v7, v8, v18, v19, h => n8 k (fun x v6 v7 v8 v18 v19 h => kx x (l7 k G r v6 v7 v8 v18 v19 h) (G x v6 v7 h)) v6 v7 v8 v18 v19 h
theorem l7_eq {R : Type} (k : Nat) (G : KT2 R) : ∀ (r : Nat) (σ : GS) (h : Heap), kloop (fun σ h K => KC k 32 c8 σ h K) r σ h (fun x σ h => G x (σ 6) (σ 7) h) = l7 k G r (σ 6) (σ 7) (σ 8) (σ 18) (σ 19) h
  | 0, _, _ => rfl
  | r + 1, σ, h => (kloop_eq (fun σ h => l7_eq k G r σ h)).trans (n8_eq k (fun x v6 v7 v8 v18 v19 h => kx x (l7 k G r v6 v7 v8 v18 v19 h) (G x v6 v7 h)) σ h)
@[simp] def n7 {R : Type} (k : Nat) (G : KT2 R) (v6 v7 v8 v18 v19 : GV) (h : Heap) : Option R := l7 k G k v6 v7 v8 v18 v19 h
theorem n7_eq {R : Type} (k : Nat) (G : KT2 R) (σ : GS) (h : Heap) : KC k 32 c7 σ h (fun x σ h => G x (σ 6) (σ 7) h) = n7 k G (σ 6) (σ 7) (σ 8) (σ 18) (σ 19) h := (kloopc_eq (a := c8) rfl).trans (l7_eq k G k σ h)
@[simp] def n6 {R : Type} (k : Nat) (G : KT2 R) (v6 v7 v8 v18 v19 : GV) (h : Heap) : Option R := n7 k (fun x v6 v7 h => kb 0 x fun x => G x v6 v7 h) v6 v7 v8 v18 v19 h
theorem n6_eq {R : Type} (k : Nat) (G : KT2 R) (σ : GS) (h : Heap) : KC k 32 c6 σ h (fun x σ h => G x (σ 6) (σ 7) h) = n6 k G (σ 6) (σ 7) (σ 8) (σ 18) (σ 19) h := (kblock_eq (a := c7) rfl).trans (n7_eq k (fun x v6 v7 h => kb 0 x fun x => G x v6 v7 h) σ h)
noncomputable def c16 : Code := cL c5
@[simp] def n5 {R : Type} (k : Nat) (G : KT2 R) (v2 v6 v7 v8 : GV) (h : Heap) : Option R := n6 k G v6 v7 v8 v2 (.int .i64 0) h
theorem n5_eq0 {R : Type} (k : Nat) (G : KT2 R) (σ : GS) (h : Heap) : KC k 32 c16 σ h (fun x σ h => kx x (n6 k G (σ 6) (σ 7) (σ 8) (σ 18) (σ 19) h) (G x (σ 6) (σ 7) h)) = n5 k G (σ 2) (σ 6) (σ 7) (σ 8) h := by kernel_rfl
theorem n5_eq {R : Type} (k : Nat) (G : KT2 R) (σ : GS) (h : Heap) : KC k 32 c5 σ h (fun x σ h => G x (σ 6) (σ 7) h) = n5 k G (σ 2) (σ 6) (σ 7) (σ 8) h := (kseq (b := c6) rfl (fun σ h => n6_eq k G σ h)).trans (n5_eq0 k G σ h)
@[simp] def n3 {R : Type} (k : Nat) (G : KT1 R) (v2 v6 v7 v8 : GV) (h : Heap) : Option R := n5 k (fun x v6 v7 h => kx x (n4 k G v7 h) (G x v6 h)) v2 v6 v7 v8 h
theorem n3_eq {R : Type} (k : Nat) (G : KT1 R) (σ : GS) (h : Heap) : KC k 32 c3 σ h (fun x σ h => G x (σ 6) h) = n3 k G (σ 2) (σ 6) (σ 7) (σ 8) h := (kseq (b := c4) rfl (fun σ h => n4_eq k G σ h)).trans (n5_eq k (fun x v6 v7 h => kx x (n4 k G v7 h) (G x v6 h)) σ h)
noncomputable def c17 : Code := cL c2
@[simp] def n2 {R : Type} (k : Nat) (G : KT1 R) (v0 v1 v2 v6 : GV) (h : Heap) : Option R := (kN NN fn.impl_begun [(.int .i64 1), v0, v1] h).bind fun v17 => n3 k G v2 v6 .emp v17 h
theorem n2_eq0 {R : Type} (k : Nat) (G : KT1 R) (σ : GS) (h : Heap) : KC k 32 c17 σ h (fun x σ h => kx x (n3 k G (σ 2) (σ 6) (σ 7) (σ 8) h) (G x (σ 6) h)) = n2 k G (σ 0) (σ 1) (σ 2) (σ 6) h := by kernel_rfl
theorem n2_eq {R : Type} (k : Nat) (G : KT1 R) (σ : GS) (h : Heap) : KC k 32 c2 σ h (fun x σ h => G x (σ 6) h) = n2 k G (σ 0) (σ 1) (σ 2) (σ 6) h := (kseq (b := c3) rfl (fun σ h => n3_eq k G σ h)).trans (n2_eq0 k G σ h)
noncomputable def c18 : Code := cL c1
@[simp] def n1 {R : Type} (k : Nat) (G : KT1 R) (v0 v1 v2 v6 : GV) (h : Heap) : Option R := (kN NN fn.impl_isSeal [v0, v1, v2] h).bind fun v12 => (kun .not v12).bind fun v13 => kcond v13 (G .ret (.str { data := #[] }) h) (n2 k G v0 v1 v2 v6 h)
theorem n1_eq0 {R : Type} (k : Nat) (G : KT1 R) (σ : GS) (h : Heap) : KC k 32 c18 σ h (fun x σ h => kx x (n2 k G (σ 0) (σ 1) (σ 2) (σ 6) h) (G x (σ 6) h)) = n1 k G (σ 0) (σ 1) (σ 2) (σ 6) h := by kernel_rfl
theorem n1_eq {R : Type} (k : Nat) (G : KT1 R) (σ : GS) (h : Heap) : KC k 32 c1 σ h (fun x σ h => G x (σ 6) h) = n1 k G (σ 0) (σ 1) (σ 2) (σ 6) h := (kseq (b := c2) rfl (fun σ h => n2_eq k G σ h)).trans (n1_eq0 k G σ h)
noncomputable def c19 : Code := cL c0
@[simp] def n0 {R : Type} (k : Nat) (G : KT1 R) (v0 v1 v2 : GV) (h : Heap) : Option R := n1 k G v0 v1 v2 (.str { data := #[] }) h
theorem n0_eq0 {R : Type} (k : Nat) (G : KT1 R) (σ : GS) (h : Heap) : KC k 32 c19 σ h (fun x σ h => kx x (n1 k G (σ 0) (σ 1) (σ 2) (σ 6) h) (G x (σ 6) h)) = n0 k G (σ 0) (σ 1) (σ 2) h := by kernel_rfl
theorem n0_eq {R : Type} (k : Nat) (G : KT1 R) (σ : GS) (h : Heap) : KC k 32 c0 σ h (fun x σ h => G x (σ 6) h) = n0 k G (σ 0) (σ 1) (σ 2) h := (kseq (b := c1) rfl (fun σ h => n1_eq k G σ h)).trans (n0_eq0 k G σ h)
def run {R : Type} (k : Nat) (a0 : GV) (a1 : GV) (a2 : GV) (h : Heap) (fin : GV → Heap → Option R) : Option R := n0 k (fun x v6 h => kend x (fin v6 h)) a0 a1 a2 h
theorem run_eq {R : Type} (k : Nat) (a0 : GV) (a1 : GV) (a2 : GV) (h : Heap) (fin : GV → Heap → Option R) : kfun PP cfg NN HH k fn.impl_Stream [a0, a1, a2] h fin = run k a0 a1 a2 h fin := (kfun_eq (nt := 32) (c := c0) (show PP.funcs[fn.impl_Stream]? = some Tryd.f40 by kernel_rfl) (by kernel_rfl) (by kernel_rfl) (fun x σ h => by cases x <;> kernel_rfl)).trans (n0_eq k (fun x v6 h => kend x (fin v6 h)) _ h)
theorem gives {k : Nat} {a0 : GV} {a1 : GV} {a2 : GV} {v : GV} (e : run k a0 a1 a2 [] finN = some v) : NN fn.impl_Stream [a0, a1, a2] = some v := nω_of (by kernel_rfl) ((run_eq k a0 a1 a2 [] finN).trans e)
end S.impl_Stream
/-! spec_Stream -/
namespace S.spec_Stream
noncomputable def c0 : Code := bodyOf Tryd.f41
noncomputable def c1 : Code := cR c0
noncomputable def c2 : Code := cR c1
noncomputable def c3 : Code := cR c2
noncomputable def c4 : Code := cR c3
noncomputable def c5 : Code := cR c4
@[simp] def n5 {R : Type} (k : Nat) (G : KT1 R) (v7 : GV) (h : Heap) : Option R := (kbstr h v7).bind fun v36 => G .ret v36 h
theorem n5_eq {R : Type} (k : Nat) (G : KT1 R) (σ : GS) (h : Heap) : KC k 37 c5 σ h (fun x σ h => G x (σ 6) h) = n5 k G (σ 7) h := by kernel_rfl
noncomputable def c6 : Code := cL c4
noncomputable def c7 : Code := cL c6
noncomputable def c8 : Code := cL c7
noncomputable def c9 : Code := cR c8
noncomputable def c10 : Code := cR c9
@[simp] def n10 {R : Type} (k : Nat) (G : KT4 R) (v2 v6 v7 v8 : GV) (h : Heap) : Option R := (kbin .sub v2 (.int .i64 1)).bind fun v26 => G .nrm v26 v6 v7 v8 h
theorem n10_eq {R : Type} (k : Nat) (G : KT4 R) (σ : GS) (h : Heap) : KC k 37 c10 σ h (fun x σ h => G x (σ 2) (σ 6) (σ 7) (σ 8) h) = n10 k G (σ 2) (σ 6) (σ 7) (σ 8) h := by kernel_rfl
noncomputable def c11 : Code := cL c9
noncomputable def c12 : Code := cL c11
@[simp] def n12 {R : Type} (k : Nat) (G : KT4 R) (v2 v6 v7 v8 : GV) (h : Heap) : Option R := (kN NN fn.spec_Mix [v8, (.int .i64 7)] h).bind fun v28 => (kbin .rem v28 (.int .i64 256)).bind fun v31 => (kconvI .u8 v31).bind fun v32 => (gfill (fun i => some (i * 1, 1)) (zeros [(.int .u8 0)] 1) [(0, v32)]).bind fun c => kbs 1 1 c h fun v33 h => (kapp [(.int .u8 0)] 1 1 v7 v33 h).bind fun r => kr r fun v34 h => G .nrm v2 v6 v34 v28 h
theorem n12_eq {R : Type} (k : Nat) (G : KT4 R) (σ : GS) (h : Heap) : KC k 37 c12 σ h (fun x σ h => G x (σ 2) (σ 6) (σ 7) (σ 8) h) = n12 k G (σ 2) (σ 6) (σ 7) (σ 8) h := by kernel_rfl
@[simp] def n11 {R : Type} (k : Nat) (G : KT4 R) (v2 v6 v7 v8 : GV) (h : Heap) : Option R := n12 k (fun x v2 v6 v7 v8 h => kb 1 x fun x => G x v2 v6 v7 v8 h) v2 v6 v7 v8 h
theorem n11_eq {R : Type} (k : Nat) (G : KT4 R) (σ : GS) (h : Heap) : KC k 37 c11 σ h (fun x σ h => G x (σ 2) (σ 6) (σ 7) (σ 8) h) = n11 k G (σ 2) (σ 6) (σ 7) (σ 8) h := (kblock_eq (a := c12) rfl).trans (n12_eq k (fun x v2 v6 v7 v8 h => kb 1 x fun x => G x v2 v6 v7 v8 h) σ h)
@[simp] def n9 {R : Type} (k : Nat) (G : KT4 R) (v2 v6 v7 v8 : GV) (h : Heap) : Option R := n11 k (fun x v2 v6 v7 v8 h => kx x (n10 k G v2 v6 v7 v8 h) (G x v2 v6 v7 v8 h)) v2 v6 v7 v8 h
theorem n9_eq {R : Type} (k : Nat) (G : KT4 R) (σ : GS) (h : Heap) : KC k 37 c9 σ h (fun x σ h => G x (σ 2) (σ 6) (σ 7) (σ 8) h) = n9 k G (σ 2) (σ 6) (σ 7) (σ 8) h := (kseq (b := c10) rfl (fun σ h => n10_eq k G σ h)).trans (n11_eq k (fun x v2 v6 v7 v8 h => kx x (n10 k G v2 v6 v7 v8 h) (G x v2 v6 v7 v8 h)) σ h)
noncomputable def c13 : Code := cL c8
@[simp] def n8 {R : Type} (k : Nat) (G : KT4 R) (v2 v6 v7 v8 : GV) (h : Heap) : Option R := (kbin .gtr v2 (.int .i64 0)).bind fun v24 => kcond v24 (n9 k G v2 v6 v7 v8 h) (G (.ext 0) v2 v6 v7 v8 h)
theorem n8_eq0 {R : Type} (k : Nat) (G : KT4 R) (σ : GS) (h : Heap) : KC k 37 c13 σ h (fun x σ h => kx x (n9 k G (σ 2) (σ 6) (σ 7) (σ 8) h) (G x (σ 2) (σ 6) (σ 7) (σ 8) h)) = n8 k G (σ 2) (σ 6) (σ 7) (σ 8) h := by kernel_rfl
theorem n8_eq {R : Type} (k : Nat) (G : KT4 R) (σ : GS) (h : Heap) : KC k 37 c8 σ h (fun x σ h => G x (σ 2) (σ 6) (σ 7) (σ 8) h) = n8 k G (σ 2) (σ 6) (σ 7) (σ 8) h := (kseq (b := c9) rfl (fun σ h => n9_eq k G σ h)).trans (n8_eq0 k G σ h)
def l7 {R : Type} (k : Nat) (G : KT2 R) : Nat → GV → GV → GV → GV → Heap → Option R
  | 0, _, _, _, _, _ => none
  | r + 1, v2, v6, v7, v8, h => n8 k (fun x v2 v6 v7 v8 h => kx x (l7 k G r v2 v6 v7 v8 h) (G x v6 v7 h)) v2 v6 v7 v8 h
theorem l7_eq {R : Type} (k : Nat) (G : KT2 R) : ∀ (r : Nat) (σ : GS) (h : Heap), kloop (fun σ h K => KC k 37 c8 σ h K) r σ h (fun x σ h => G x (σ 6) (σ 7) h) = l7 k G r (σ 2) (σ 6) (σ 7) (σ 8) h
  | 0, _, _ => rfl
  | r + 1, σ, h => (kloop_eq (fun σ h => l7_eq k G r σ h)).trans (n8_eq k (fun x v2 v6 v7 v8 h => kx x (l7 k G r v2 v6 v7 v8 h) (G x v6 v7 h)) σ h)
@[simp] def n7 {R : Type} (k : Nat) (G : KT2 R) (v2 v6 v7 v8 : GV) (h : Heap) : Option R := l7 k G k v2 v6 v7 v8 h
theorem n7_eq {R : Type} (k : Nat) (G : KT2 R) (σ : GS) (h : Heap) : KC k 37 c7 σ h (fun x σ h => G x (σ 6) (σ 7) h) = n7 k G (σ 2) (σ 6) (σ 7) (σ 8) h := (kloopc_eq (a := c8) rfl).trans (l7_eq k G k σ h)
@[simp] def n6 {R : Type} (k : Nat) (G : KT2 R) (v2 v6 v7 v8 : GV) (h : Heap) : Option R := n7 k (fun x v6 v7 h => kb 0 x fun x => G x v6 v7 h) v2 v6 v7 v8 h
theorem n6_eq {R : Type} (k : Nat) (G : KT2 R) (σ : GS) (h : Heap) : KC k 37 c6 σ h (fun x σ h => G x (σ 6) (σ 7) h) = n6 k G (σ 2) (σ 6) (σ 7) (σ 8) h := (kblock_eq (a := c7) rfl).trans (n7_eq k (fun x v6 v7 h => kb 0 x fun x => G x v6 v7 h) σ h)
@[simp] def n4 {R : Type} (k : Nat) (G : KT1 R) (v2 v6 v7 v8 : GV) (h : Heap) : Option R := n6 k (fun x v6 v7 h => kx x (n5 k G v7 h) (G x v6 h)) v2 v6 v7 v8 h
theorem n4_eq {R : Type} (k : Nat) (G : KT1 R) (σ : GS) (h : Heap) : KC k 37 c4 σ h (fun x σ h => G x (σ 6) h) = n4 k G (σ 2) (σ 6) (σ 7) (σ 8) h := (kseq (b := c5) rfl (fun σ h => n5_eq k G σ h)).trans (n6_eq k (fun x v6 v7 h => kx x (n5 k G v7 h) (G x v6 h)) σ h)
noncomputable def c14 : Code := cL c3
@[simp] def n3 {R : Type} (k : Nat) (G : KT1 R) (v0 v1 v2 v6 v7 : GV) (h : Heap) : Option R := (kN NN fn.spec_l14Begin [v0, v1, (.int .i64 1)] h).bind fun v22 => n4 k G v2 v6 v7 v22 h
theorem n3_eq0 {R : Type} (k : Nat) (G : KT1 R) (σ : GS) (h : Heap) : KC k 37 c14 σ h (fun x σ h => kx x (n4 k G (σ 2) (σ 6) (σ 7) (σ 8) h) (G x (σ 6) h)) = n3 k G (σ 0) (σ 1) (σ 2) (σ 6) (σ 7) h := by kernel_rfl
theorem n3_eq {R : Type} (k : Nat) (G : KT1 R) (σ : GS) (h : Heap) : KC k 37 c3 σ h (fun x σ h => G x (σ 6) h) = n3 k G (σ 0) (σ 1) (σ 2) (σ 6) (σ 7) h := (kseq (b := c4) rfl (fun σ h => n4_eq k G σ h)).trans (n3_eq0 k G σ h)
noncomputable def c15 : Code := cL c2
@[simp] def n2 {R : Type} (k : Nat) (G : KT1 R) (v0 v1 v2 v6 : GV) (h : Heap) : Option R := n3 k G v0 v1 v2 v6 .emp h
theorem n2_eq0 {R : Type} (k : Nat) (G : KT1 R) (σ : GS) (h : Heap) : KC k 37 c15 σ h (fun x σ h => kx x (n3 k G (σ 0) (σ 1) (σ 2) (σ 6) (σ 7) h) (G x (σ 6) h)) = n2 k G (σ 0) (σ 1) (σ 2) (σ 6) h := by kernel_rfl
theorem n2_eq {R : Type} (k : Nat) (G : KT1 R) (σ : GS) (h : Heap) : KC k 37 c2 σ h (fun x σ h => G x (σ 6) h) = n2 k G (σ 0) (σ 1) (σ 2) (σ 6) h := (kseq (b := c3) rfl (fun σ h => n3_eq k G σ h)).trans (n2_eq0 k G σ h)
noncomputable def c16 : Code := cL c1
noncomputable def c17 : Code := cR c16
@[simp] def n17 {R : Type} (k : Nat) (G : KT4 R) (v0 v1 v2 v6 v18 : GV) (h : Heap) : Option R := kcond v18 (G .ret v0 v1 v2 (.str { data := #[] }) h) (G .nrm v0 v1 v2 v6 h)
theorem n17_eq {R : Type} (k : Nat) (G : KT4 R) (σ : GS) (h : Heap) : KC k 37 c17 σ h (fun x σ h => G x (σ 0) (σ 1) (σ 2) (σ 6) h) = n17 k G (σ 0) (σ 1) (σ 2) (σ 6) (σ 18) h := by kernel_rfl
noncomputable def c18 : Code := cL c16
noncomputable def o18 : Array Oper := cO c18
@[simp] def g18_2 {R : Type} (k : Nat) (G : KT5 R) (v0 v1 v2 v6 v12 v17 : GV) (h : Heap) : Option R := (kpick v12 (.bool true) v17).bind fun v18 => G .nrm v0 v1 v2 v6 v18 h
theorem g18_2_eq {R : Type} (k : Nat) (G : KT5 R) (σ : GS) (h : Heap) : kgroups PP cfg NN HH 37 o18 [(none, [9])] σ h (fun σ h => G .nrm (σ 0) (σ 1) (σ 2) (σ 6) (σ 18) h) = g18_2 k G (σ 0) (σ 1) (σ 2) (σ 6) (σ 12) (σ 17) h := by kernel_rfl
@[simp] def g18_1 {R : Type} (k : Nat) (G : KT5 R) (v0 v1 v2 v6 v12 : GV) (h : Heap) : Option R := bif tr false v12 then (kN NN fn.spec_l14Told [v0, v1, v2] h).bind fun v16 => (kun .not v16).bind fun v17 => g18_2 k G v0 v1 v2 v6 v12 v17 h else g18_2 k G v0 v1 v2 v6 v12 .un h
theorem g18_1_eq0 {R : Type} (k : Nat) (G : KT5 R) (σ : GS) (h : Heap) : kgroup1 PP cfg NN HH 37 o18 (some (3, false), [4, 5, 6, 7, 8]) σ h (fun σ h => g18_2 k G (σ 0) (σ 1) (σ 2) (σ 6) (σ 12) (σ 17) h) = g18_1 k G (σ 0) (σ 1) (σ 2) (σ 6) (σ 12) h := by kernel_rfl
theorem g18_1_eq {R : Type} (k : Nat) (G : KT5 R) (σ : GS) (h : Heap) : kgroups PP cfg NN HH 37 o18 [(some (3, false), [4, 5, 6, 7, 8]), (none, [9])] σ h (fun σ h => G .nrm (σ 0) (σ 1) (σ 2) (σ 6) (σ 18) h) = g18_1 k G (σ 0) (σ 1) (σ 2) (σ 6) (σ 12) h := (kgroups_cons (fun σ h => g18_2_eq k G σ h)).trans (g18_1_eq0 k G σ h)
@[simp] def g18_0 {R : Type} (k : Nat) (G : KT5 R) (v0 v1 v2 v6 : GV) (h : Heap) : Option R := (kN NN fn.spec_l1In [v2, (.int .i64 0), (.int .i64 4000)] h).bind fun v10 => (kun .not v10).bind fun v11 => g18_1 k G v0 v1 v2 v6 v11 h
theorem g18_0_eq0 {R : Type} (k : Nat) (G : KT5 R) (σ : GS) (h : Heap) : kgroup1 PP cfg NN HH 37 o18 (none, [0, 1, 2, 3]) σ h (fun σ h => g18_1 k G (σ 0) (σ 1) (σ 2) (σ 6) (σ 12) h) = g18_0 k G (σ 0) (σ 1) (σ 2) (σ 6) h := by kernel_rfl
theorem g18_0_eq {R : Type} (k : Nat) (G : KT5 R) (σ : GS) (h : Heap) : kgroups PP cfg NN HH 37 o18 [(none, [0, 1, 2, 3]), (some (3, false), [4, 5, 6, 7, 8]), (none, [9])] σ h (fun σ h => G .nrm (σ 0) (σ 1) (σ 2) (σ 6) (σ 18) h) = g18_0 k G (σ 0) (σ 1) (σ 2) (σ 6) h := (kgroups_cons (fun σ h => g18_1_eq k G σ h)).trans (g18_0_eq0 k G σ h)
@[simp] def n18 {R : Type} (k : Nat) (G : KT5 R) (v0 v1 v2 v6 : GV) (h : Heap) : Option R := g18_0 k G v0 v1 v2 v6 h
theorem n18_eq {R : Type} (k : Nat) (G : KT5 R) (σ : GS) (h : Heap) : KC k 37 c18 σ h (fun x σ h => G x (σ 0) (σ 1) (σ 2) (σ 6) (σ 18) h) = n18 k G (σ 0) (σ 1) (σ 2) (σ 6) h := (kregion_eq (id := 1) (draw := false) (ops := o18) (gs := [(none, [0, 1, 2, 3]), (some (3, false), [4, 5, 6, 7, 8]), (none, [9])]) (by kernel_rfl) (by kernel_rfl) (by kernel_rfl)).trans (g18_0_eq k G σ h)
@[simp] def n16 {R : Type} (k : Nat) (G : KT4 R) (v0 v1 v2 v6 : GV) (h : Heap) : Option R := n18 k (fun x v0 v1 v2 v6 v18 h => kx x (n17 k G v0 v1 v2 v6 v18 h) (G x v0 v1 v2 v6 h)) v0 v1 v2 v6 h
theorem n16_eq {R : Type} (k : Nat) (G : KT4 R) (σ : GS) (h : Heap) : KC k 37 c16 σ h (fun x σ h => G x (σ 0) (σ 1) (σ 2) (σ 6) h) = n16 k G (σ 0) (σ 1) (σ 2) (σ 6) h := (kseq (b := c17) rfl (fun σ h => n17_eq k G σ h)).trans (n18_eq k (fun x v0 v1 v2 v6 v18 h => kx x (n17 k G v0 v1 v2 v6 v18 h) (G x v0 v1 v2 v6 h)) σ h)
@[simp] def n1 {R : Type} (k : Nat) (G : KT1 R) (v0 v1 v2 v6 : GV) (h : Heap) : Option R := n16 k (fun x v0 v1 v2 v6 h => kx x (n2 k G v0 v1 v2 v6 h) (G x v6 h)) v0 v1 v2 v6 h
theorem n1_eq {R : Type} (k : Nat) (G : KT1 R) (σ : GS) (h : Heap) : KC k 37 c1 σ h (fun x σ h => G x (σ 6) h) = n1 k G (σ 0) (σ 1) (σ 2) (σ 6) h := (kseq (b := c2) rfl (fun σ h => n2_eq k G σ h)).trans (n16_eq k (fun x v0 v1 v2 v6 h => kx x (n2 k G v0 v1 v2 v6 h) (G x v6 h)) σ h)
noncomputable def c19 : Code := cL c0
@[simp] def n0 {R : Type} (k : Nat) (G : KT1 R) (v0 v1 v2 : GV) (h : Heap) : Option R := n1 k G v0 v1 v2 (.str { data := #[] }) h
theorem n0_eq0 {R : Type} (k : Nat) (G : KT1 R) (σ : GS) (h : Heap) : KC k 37 c19 σ h (fun x σ h => kx x (n1 k G (σ 0) (σ 1) (σ 2) (σ 6) h) (G x (σ 6) h)) = n0 k G (σ 0) (σ 1) (σ 2) h := by kernel_rfl
theorem n0_eq {R : Type} (k : Nat) (G : KT1 R) (σ : GS) (h : Heap) : KC k 37 c0 σ h (fun x σ h => G x (σ 6) h) = n0 k G (σ 0) (σ 1) (σ 2) h := (kseq (b := c1) rfl (fun σ h => n1_eq k G σ h)).trans (n0_eq0 k G σ h)
def run {R : Type} (k : Nat) (a0 : GV) (a1 : GV) (a2 : GV) (h : Heap) (fin : GV → Heap → Option R) : Option R := n0 k (fun x v6 h => kend x (fin v6 h)) a0 a1 a2 h
theorem run_eq {R : Type} (k : Nat) (a0 : GV) (a1 : GV) (a2 : GV) (h : Heap) (fin : GV → Heap → Option R) : kfun PP cfg NN HH k fn.spec_Stream [a0, a1, a2] h fin = run k a0 a1 a2 h fin := (kfun_eq (nt := 37) (c := c0) (show PP.funcs[fn.spec_Stream]? = some Tryd.f41 by kernel_rfl) (by kernel_rfl) (by kernel_rfl) (fun x σ h => by cases x <;> kernel_rfl)).trans (n0_eq k (fun x v6 h => kend x (fin v6 h)) _ h)
theorem gives {k : Nat} {a0 : GV} {a1 : GV} {a2 : GV} {v : GV} (e : run k a0 a1 a2 [] finN = some v) : NN fn.spec_Stream [a0, a1, a2] = some v := nω_of (by kernel_rfl) ((run_eq k a0 a1 a2 [] finN).trans e)
end S.spec_Stream
/-! impl_Sum -/
namespace S.impl_Sum
noncomputable def c0 : Code := bodyOf Tryd.f50
noncomputable def c1 : Code := cR c0
noncomputable def c2 : Code := cR c1
noncomputable def c3 : Code := cR c2
@[simp] def n3 {R : Type} (k : Nat) (G : KT1 R) (v3 : GV) (h : Heap) : Option R := G .ret v3 h
theorem n3_eq {R : Type} (k : Nat) (G : KT1 R) (σ : GS) (h : Heap) : KC k 18 c3 σ h (fun x σ h => G x (σ 2) h) = n3 k G (σ 3) h := by kernel_rfl
noncomputable def c4 : Code := cL c2
noncomputable def c5 : Code := cR c4
noncomputable def c6 : Code := cL c5
noncomputable def c7 : Code := cL c6
noncomputable def c8 : Code := cR c7
noncomputable def c9 : Code := cR c8
noncomputable def c10 : Code := cR c9
@[simp] def n10 {R : Type} (k : Nat) (G : KT5 R) (v0 v2 v3 v6 v7 : GV) (h : Heap) : Option R := (kbin .add v7 (.int .i64 1)).bind fun v16 => G .nrm v0 v2 v3 v6 v16 h
theorem n10_eq {R : Type} (k : Nat) (G : KT5 R) (σ : GS) (h : Heap) : KC k 18 c10 σ h (fun x σ h => G x (σ 0) (σ 2) (σ 3) (σ 6) (σ 7) h) = n10 k G (σ 0) (σ 2) (σ 3) (σ 6) (σ 7) h := by kernel_rfl
noncomputable def c11 : Code := cL c9
noncomputable def c12 : Code := cL c11
@[simp] def n12 {R : Type} (k : Nat) (G : KT5 R) (v0 v2 v3 v6 v7 : GV) (h : Heap) : Option R := (kbyte v0 v7).bind fun v13 => (kconvI .i64 v13).bind fun v14 => (kN NN fn.impl_Mix [v3, v14] h).bind fun v15 => G .nrm v0 v2 v15 v6 v7 h
theorem n12_eq {R : Type} (k : Nat) (G : KT5 R) (σ : GS) (h : Heap) : KC k 18 c12 σ h (fun x σ h => G x (σ 0) (σ 2) (σ 3) (σ 6) (σ 7) h) = n12 k G (σ 0) (σ 2) (σ 3) (σ 6) (σ 7) h := by kernel_rfl
@[simp] def n11 {R : Type} (k : Nat) (G : KT5 R) (v0 v2 v3 v6 v7 : GV) (h : Heap) : Option R := n12 k (fun x v0 v2 v3 v6 v7 h => kb 1 x fun x => G x v0 v2 v3 v6 v7 h) v0 v2 v3 v6 v7 h
theorem n11_eq {R : Type} (k : Nat) (G : KT5 R) (σ : GS) (h : Heap) : KC k 18 c11 σ h (fun x σ h => G x (σ 0) (σ 2) (σ 3) (σ 6) (σ 7) h) = n11 k G (σ 0) (σ 2) (σ 3) (σ 6) (σ 7) h := (kblock_eq (a := c12) rfl).trans (n12_eq k (fun x v0 v2 v3 v6 v7 h => kb 1 x fun x => G x v0 v2 v3 v6 v7 h) σ h)
@[simp] def n9 {R : Type} (k : Nat) (G : KT5 R) (v0 v2 v3 v6 v7 : GV) (h : Heap) : Option R := n11 k (fun x v0 v2 v3 v6 v7 h => kx x (n10 k G v0 v2 v3 v6 v7 h) (G x v0 v2 v3 v6 v7 h)) v0 v2 v3 v6 v7 h
theorem n9_eq {R : Type} (k : Nat) (G : KT5 R) (σ : GS) (h : Heap) : KC k 18 c9 σ h (fun x σ h => G x (σ 0) (σ 2) (σ 3) (σ 6) (σ 7) h) = n9 k G (σ 0) (σ 2) (σ 3) (σ 6) (σ 7) h := (kseq (b := c10) rfl (fun σ h => n10_eq k G σ h)).trans (n11_eq k (fun x v0 v2 v3 v6 v7 h => kx x (n10 k G v0 v2 v3 v6 v7 h) (G x v0 v2 v3 v6 v7 h)) σ h)
noncomputable def c13 : Code := cL c8
@[simp] def n8 {R : Type} (k : Nat) (G : KT5 R) (v0 v2 v3 v6 v7 v8 : GV) (h : Heap) : Option R := kcond v8 (n9 k G v0 v2 v3 v6 v7 h) (G (.ext 0) v0 v2 v3 v6 v7 h)
theorem n8_eq0 {R : Type} (k : Nat) (G : KT5 R) (σ : GS) (h : Heap) : KC k 18 c13 σ h (fun x σ h => kx x (n9 k G (σ 0) (σ 2) (σ 3) (σ 6) (σ 7) h) (G x (σ 0) (σ 2) (σ 3) (σ 6) (σ 7) h)) = n8 k G (σ 0) (σ 2) (σ 3) (σ 6) (σ 7) (σ 8) h := by kernel_rfl
theorem n8_eq {R : Type} (k : Nat) (G : KT5 R) (σ : GS) (h : Heap) : KC k 18 c8 σ h (fun x σ h => G x (σ 0) (σ 2) (σ 3) (σ 6) (σ 7) h) = n8 k G (σ 0) (σ 2) (σ 3) (σ 6) (σ 7) (σ 8) h := (kseq (b := c9) rfl (fun σ h => n9_eq k G σ h)).trans (n8_eq0 k G σ h)
noncomputable def c14 : Code := cL c7
@[simp] def n7 {R : Type} (k : Nat) (G : KT5 R) (v0 v2 v3 v6 v7 : GV) (h : Heap) : Option R := (kbin .lss v7 v6).bind fun v8 => n8 k G v0 v2 v3 v6 v7 v8 h
theorem n7_eq0 {R : Type} (k : Nat) (G : KT5 R) (σ : GS) (h : Heap) : KC k 18 c14 σ h (fun x σ h => kx x (n8 k G (σ 0) (σ 2) (σ 3) (σ 6) (σ 7) (σ 8) h) (G x (σ 0) (σ 2) (σ 3) (σ 6) (σ 7) h)) = n7 k G (σ 0) (σ 2) (σ 3) (σ 6) (σ 7) h := by kernel_rfl
theorem n7_eq {R : Type} (k : Nat) (G : KT5 R) (σ : GS) (h : Heap) : KC k 18 c7 σ h (fun x σ h => G x (σ 0) (σ 2) (σ 3) (σ 6) (σ 7) h) = n7 k G (σ 0) (σ 2) (σ 3) (σ 6) (σ 7) h := (kseq (b := c8) rfl (fun σ h => n8_eq k G σ h)).trans (n7_eq0 k G σ h)
def l6 {R : Type} (k : Nat) (G : KT2 R) : Nat → GV → GV → GV → GV → GV → Heap → Option R
  | 0, _, _, _, _, _, _ => none
  | r + 1, v0, v2, v3, v6, v7, h => n7 k (fun x v0 v2 v3 v6 v7 h => kx x (l6 k G r v0 v2 v3 v6 v7 h) (G x v2 v3 h)) v0 v2 v3 v6 v7 h
theorem l6_eq {R : Type} (k : Nat) (G : KT2 R) : ∀ (r : Nat) (σ : GS) (h : Heap), kloop (fun σ h K => KC k 18 c7 σ h K) r σ h (fun x σ h => G x (σ 2) (σ 3) h) = l6 k G r (σ 0) (σ 2) (σ 3) (σ 6) (σ 7) h
  | 0, _, _ => rfl
  | r + 1, σ, h => (kloop_eq (fun σ h => l6_eq k G r σ h)).trans (n7_eq k (fun x v0 v2 v3 v6 v7 h => kx x (l6 k G r v0 v2 v3 v6 v7 h) (G x v2 v3 h)) σ h)
@[simp] def n6 {R : Type} (k : Nat) (G : KT2 R) (v0 v2 v3 v6 v7 : GV) (h : Heap) : Option R := l6 k G k v0 v2 v3 v6 v7 h
theorem n6_eq {R : Type} (k : Nat) (G : KT2 R) (σ : GS) (h : Heap) : KC k 18 c6 σ h (fun x σ h => G x (σ 2) (σ 3) h) = n6 k G (σ 0) (σ 2) (σ 3) (σ 6) (σ 7) h := (kloopc_eq (a := c7) rfl).trans (l6_eq k G k σ h)
@[simp] def n5 {R : Type} (k : Nat) (G : KT2 R) (v0 v2 v3 v6 v7 : GV) (h : Heap) : Option R := n6 k (fun x v2 v3 h => kb 0 x fun x => G x v2 v3 h) v0 v2 v3 v6 v7 h
theorem n5_eq {R : Type} (k : Nat) (G : KT2 R) (σ : GS) (h : Heap) : KC k 18 c5 σ h (fun x σ h => G x (σ 2) (σ 3) h) = n5 k G (σ 0) (σ 2) (σ 3) (σ 6) (σ 7) h := (kblock_eq (a := c6) rfl).trans (n6_eq k (fun x v2 v3 h => kb 0 x fun x => G x v2 v3 h) σ h)
noncomputable def c15 : Code := cL c4
@[simp] def n4 {R : Type} (k : Nat) (G : KT2 R) (v0 v2 v3 : GV) (h : Heap) : Option R := (klenS v0).bind fun v6 => n5 k G v0 v2 v3 v6 (.int .i64 0) h
theorem n4_eq0 {R : Type} (k : Nat) (G : KT2 R) (σ : GS) (h : Heap) : KC k 18 c15 σ h (fun x σ h => kx x (n5 k G (σ 0) (σ 2) (σ 3) (σ 6) (σ 7) h) (G x (σ 2) (σ 3) h)) = n4 k G (σ 0) (σ 2) (σ 3) h := by kernel_rfl
theorem n4_eq {R : Type} (k : Nat) (G : KT2 R) (σ : GS) (h : Heap) : KC k 18 c4 σ h (fun x σ h => G x (σ 2) (σ 3) h) = n4 k G (σ 0) (σ 2) (σ 3) h := (kseq (b := c5) rfl (fun σ h => n5_eq k G σ h)).trans (n4_eq0 k G σ h)
@[simp] def n2 {R : Type} (k : Nat) (G : KT1 R) (v0 v2 v3 : GV) (h : Heap) : Option R := n4 k (fun x v2 v3 h => kx x (n3 k G v3 h) (G x v2 h)) v0 v2 v3 h
theorem n2_eq {R : Type} (k : Nat) (G : KT1 R) (σ : GS) (h : Heap) : KC k 18 c2 σ h (fun x σ h => G x (σ 2) h) = n2 k G (σ 0) (σ 2) (σ 3) h := (kseq (b := c3) rfl (fun σ h => n3_eq k G σ h)).trans (n4_eq k (fun x v2 v3 h => kx x (n3 k G v3 h) (G x v2 h)) σ h)
noncomputable def c16 : Code := cL c1
@[simp] def n1 {R : Type} (k : Nat) (G : KT1 R) (v0 v2 : GV) (h : Heap) : Option R := n2 k G v0 v2 (.int .i64 2) h
theorem n1_eq0 {R : Type} (k : Nat) (G : KT1 R) (σ : GS) (h : Heap) : KC k 18 c16 σ h (fun x σ h => kx x (n2 k G (σ 0) (σ 2) (σ 3) h) (G x (σ 2) h)) = n1 k G (σ 0) (σ 2) h := by kernel_rfl
theorem n1_eq {R : Type} (k : Nat) (G : KT1 R) (σ : GS) (h : Heap) : KC k 18 c1 σ h (fun x σ h => G x (σ 2) h) = n1 k G (σ 0) (σ 2) h := (kseq (b := c2) rfl (fun σ h => n2_eq k G σ h)).trans (n1_eq0 k G σ h)
noncomputable def c17 : Code := cL c0
@[simp] def n0 {R : Type} (k : Nat) (G : KT1 R) (v0 : GV) (h : Heap) : Option R := n1 k G v0 (.int .i64 0) h
theorem n0_eq0 {R : Type} (k : Nat) (G : KT1 R) (σ : GS) (h : Heap) : KC k 18 c17 σ h (fun x σ h => kx x (n1 k G (σ 0) (σ 2) h) (G x (σ 2) h)) = n0 k G (σ 0) h := by kernel_rfl
theorem n0_eq {R : Type} (k : Nat) (G : KT1 R) (σ : GS) (h : Heap) : KC k 18 c0 σ h (fun x σ h => G x (σ 2) h) = n0 k G (σ 0) h := (kseq (b := c1) rfl (fun σ h => n1_eq k G σ h)).trans (n0_eq0 k G σ h)
def run {R : Type} (k : Nat) (a0 : GV) (h : Heap) (fin : GV → Heap → Option R) : Option R := n0 k (fun x v2 h => kend x (fin v2 h)) a0 h
theorem run_eq {R : Type} (k : Nat) (a0 : GV) (h : Heap) (fin : GV → Heap → Option R) : kfun PP cfg NN HH k fn.impl_Sum [a0] h fin = run k a0 h fin := (kfun_eq (nt := 18) (c := c0) (show PP.funcs[fn.impl_Sum]? = some Tryd.f50 by kernel_rfl) (by kernel_rfl) (by kernel_rfl) (fun x σ h => by cases x <;> kernel_rfl)).trans (n0_eq k (fun x v2 h => kend x (fin v2 h)) _ h)
theorem gives {k : Nat} {a0 : GV} {v : GV} (e : run k a0 [] finN = some v) : NN fn.impl_Sum [a0] = some v := nω_of (by kernel_rfl) ((run_eq k a0 [] finN).trans e)
end S.impl_Sum
/-! spec_Sum -/
namespace S.spec_Sum
noncomputable def c0 : Code := bodyOf Tryd.f51
noncomputable def c1 : Code := cR c0
noncomputable def c2 : Code := cR c1
noncomputable def c3 : Code := cR c2
@[simp] def n3 {R : Type} (k : Nat) (G : KT1 R) (v3 : GV) (h : Heap) : Option R := G .ret v3 h
theorem n3_eq {R : Type} (k : Nat) (G : KT1 R) (σ : GS) (h : Heap) : KC k 18 c3 σ h (fun x σ h => G x (σ 2) h) = n3 k G (σ 3) h := by kernel_rfl
noncomputable def c4 : Code := cL c2
noncomputable def c5 : Code := cR c4
noncomputable def c6 : Code := cL c5
noncomputable def c7 : Code := cL c6
noncomputable def c8 : Code := cR c7
noncomputable def c9 : Code := cR c8
@[simp] def n9 {R : Type} (k : Nat) (G : KT4 R) (v0 v2 v3 v4 : GV) (h : Heap) : Option R := (kbin .add v4 (.int .i64 1)).bind fun v10 => G .nrm v0 v2 v3 v10 h
theorem n9_eq {R : Type} (k : Nat) (G : KT4 R) (σ : GS) (h : Heap) : KC k 18 c9 σ h (fun x σ h => G x (σ 0) (σ 2) (σ 3) (σ 4) h) = n9 k G (σ 0) (σ 2) (σ 3) (σ 4) h := by kernel_rfl
noncomputable def c10 : Code := cL c8
noncomputable def c11 : Code := cL c10
@[simp] def n11 {R : Type} (k : Nat) (G : KT4 R) (v0 v2 v3 v4 : GV) (h : Heap) : Option R := (kbyte v0 v4).bind fun v14 => (kconvI .i64 v14).bind fun v15 => (kN NN fn.spec_Mix [v3, v15] h).bind fun v16 => G .nrm v0 v2 v16 v4 h
theorem n11_eq {R : Type} (k : Nat) (G : KT4 R) (σ : GS) (h : Heap) : KC k 18 c11 σ h (fun x σ h => G x (σ 0) (σ 2) (σ 3) (σ 4) h) = n11 k G (σ 0) (σ 2) (σ 3) (σ 4) h := by kernel_rfl
@[simp] def n10 {R : Type} (k : Nat) (G : KT4 R) (v0 v2 v3 v4 : GV) (h : Heap) : Option R := n11 k (fun x v0 v2 v3 v4 h => kb 1 x fun x => G x v0 v2 v3 v4 h) v0 v2 v3 v4 h
theorem n10_eq {R : Type} (k : Nat) (G : KT4 R) (σ : GS) (h : Heap) : KC k 18 c10 σ h (fun x σ h => G x (σ 0) (σ 2) (σ 3) (σ 4) h) = n10 k G (σ 0) (σ 2) (σ 3) (σ 4) h := (kblock_eq (a := c11) rfl).trans (n11_eq k (fun x v0 v2 v3 v4 h => kb 1 x fun x => G x v0 v2 v3 v4 h) σ h)
@[simp] def n8 {R : Type} (k : Nat) (G : KT4 R) (v0 v2 v3 v4 : GV) (h : Heap) : Option R := n10 k (fun x v0 v2 v3 v4 h => kx x (n9 k G v0 v2 v3 v4 h) (G x v0 v2 v3 v4 h)) v0 v2 v3 v4 h
theorem n8_eq {R : Type} (k : Nat) (G : KT4 R) (σ : GS) (h : Heap) : KC k 18 c8 σ h (fun x σ h => G x (σ 0) (σ 2) (σ 3) (σ 4) h) = n8 k G (σ 0) (σ 2) (σ 3) (σ 4) h := (kseq (b := c9) rfl (fun σ h => n9_eq k G σ h)).trans (n10_eq k (fun x v0 v2 v3 v4 h => kx x (n9 k G v0 v2 v3 v4 h) (G x v0 v2 v3 v4 h)) σ h)
noncomputable def c12 : Code := cL c7
@[simp] def n7 {R : Type} (k : Nat) (G : KT4 R) (v0 v2 v3 v4 : GV) (h : Heap) : Option R := (klenS v0).bind fun v7 => (kbin .lss v4 v7).bind fun v8 => kcond v8 (n8 k G v0 v2 v3 v4 h) (G (.ext 0) v0 v2 v3 v4 h)
theorem n7_eq0 {R : Type} (k : Nat) (G : KT4 R) (σ : GS) (h : Heap) : KC k 18 c12 σ h (fun x σ h => kx x (n8 k G (σ 0) (σ 2) (σ 3) (σ 4) h) (G x (σ 0) (σ 2) (σ 3) (σ 4) h)) = n7 k G (σ 0) (σ 2) (σ 3) (σ 4) h := by kernel_rfl
theorem n7_eq {R : Type} (k : Nat) (G : KT4 R) (σ : GS) (h : Heap) : KC k 18 c7 σ h (fun x σ h => G x (σ 0) (σ 2) (σ 3) (σ 4) h) = n7 k G (σ 0) (σ 2) (σ 3) (σ 4) h := (kseq (b := c8) rfl (fun σ h => n8_eq k G σ h)).trans (n7_eq0 k G σ h)
def l6 {R : Type} (k : Nat) (G : KT2 R) : Nat → GV → GV → GV → GV → Heap → Option R
  | 0, _, _, _, _, _ => none
  | r + 1, v0, v2, v3, v4, h => n7 k (fun x v0 v2 v3 v4 h => kx x (l6 k G r v0 v2 v3 v4 h) (G x v2 v3 h)) v0 v2 v3 v4 h
theorem l6_eq {R : Type} (k : Nat) (G : KT2 R) : ∀ (r : Nat) (σ : GS) (h : Heap), kloop (fun σ h K => KC k 18 c7 σ h K) r σ h (fun x σ h => G x (σ 2) (σ 3) h) = l6 k G r (σ 0) (σ 2) (σ 3) (σ 4) h
  | 0, _, _ => rfl
  | r + 1, σ, h => (kloop_eq (fun σ h => l6_eq k G r σ h)).trans (n7_eq k (fun x v0 v2 v3 v4 h => kx x (l6 k G r v0 v2 v3 v4 h) (G x v2 v3 h)) σ h)
@[simp] def n6 {R : Type} (k : Nat) (G : KT2 R) (v0 v2 v3 v4 : GV) (h : Heap) : Option R := l6 k G k v0 v2 v3 v4 h
theorem n6_eq {R : Type} (k : Nat) (G : KT2 R) (σ : GS) (h : Heap) : KC k 18 c6 σ h (fun x σ h => G x (σ 2) (σ 3) h) = n6 k G (σ 0) (σ 2) (σ 3) (σ 4) h := (kloopc_eq (a := c7) rfl).trans (l6_eq k G k σ h)
@[simp] def n5 {R : Type} (k : Nat) (G : KT2 R) (v0 v2 v3 v4 : GV) (h : Heap) : Option R := n6 k (fun x v2 v3 h => kb 0 x fun x => G x v2 v3 h) v0 v2 v3 v4 h
theorem n5_eq {R : Type} (k : Nat) (G : KT2 R) (σ : GS) (h : Heap) : KC k 18 c5 σ h (fun x σ h => G x (σ 2) (σ 3) h) = n5 k G (σ 0) (σ 2) (σ 3) (σ 4) h := (kblock_eq (a := c6) rfl).trans (n6_eq k (fun x v2 v3 h => kb 0 x fun x => G x v2 v3 h) σ h)
noncomputable def c13 : Code := cL c4
@[simp] def n4 {R : Type} (k : Nat) (G : KT2 R) (v0 v2 v3 : GV) (h : Heap) : Option R := n5 k G v0 v2 v3 (.int .i64 0) h
theorem n4_eq0 {R : Type} (k : Nat) (G : KT2 R) (σ : GS) (h : Heap) : KC k 18 c13 σ h (fun x σ h => kx x (n5 k G (σ 0) (σ 2) (σ 3) (σ 4) h) (G x (σ 2) (σ 3) h)) = n4 k G (σ 0) (σ 2) (σ 3) h := by kernel_rfl
theorem n4_eq {R : Type} (k : Nat) (G : KT2 R) (σ : GS) (h : Heap) : KC k 18 c4 σ h (fun x σ h => G x (σ 2) (σ 3) h) = n4 k G (σ 0) (σ 2) (σ 3) h := (kseq (b := c5) rfl (fun σ h => n5_eq k G σ h)).trans (n4_eq0 k G σ h)
@[simp] def n2 {R : Type} (k : Nat) (G : KT1 R) (v0 v2 v3 : GV) (h : Heap) : Option R := n4 k (fun x v2 v3 h => kx x (n3 k G v3 h) (G x v2 h)) v0 v2 v3 h
theorem n2_eq {R : Type} (k : Nat) (G : KT1 R) (σ : GS) (h : Heap) : KC k 18 c2 σ h (fun x σ h => G x (σ 2) h) = n2 k G (σ 0) (σ 2) (σ 3) h := (kseq (b := c3) rfl (fun σ h => n3_eq k G σ h)).trans (n4_eq k (fun x v2 v3 h => kx x (n3 k G v3 h) (G x v2 h)) σ h)
noncomputable def c14 : Code := cL c1
@[simp] def n1 {R : Type} (k : Nat) (G : KT1 R) (v0 v2 : GV) (h : Heap) : Option R := n2 k G v0 v2 (.int .i64 2) h
theorem n1_eq0 {R : Type} (k : Nat) (G : KT1 R) (σ : GS) (h : Heap) : KC k 18 c14 σ h (fun x σ h => kx x (n2 k G (σ 0) (σ 2) (σ 3) h) (G x (σ 2) h)) = n1 k G (σ 0) (σ 2) h := by kernel_rfl
theorem n1_eq {R : Type} (k : Nat) (G : KT1 R) (σ : GS) (h : Heap) : KC k 18 c1 σ h (fun x σ h => G x (σ 2) h) = n1 k G (σ 0) (σ 2) h := (kseq (b := c2) rfl (fun σ h => n2_eq k G σ h)).trans (n1_eq0 k G σ h)
noncomputable def c15 : Code := cL c0
@[simp] def n0 {R : Type} (k : Nat) (G : KT1 R) (v0 : GV) (h : Heap) : Option R := n1 k G v0 (.int .i64 0) h
theorem n0_eq0 {R : Type} (k : Nat) (G : KT1 R) (σ : GS) (h : Heap) : KC k 18 c15 σ h (fun x σ h => kx x (n1 k G (σ 0) (σ 2) h) (G x (σ 2) h)) = n0 k G (σ 0) h := by kernel_rfl
theorem n0_eq {R : Type} (k : Nat) (G : KT1 R) (σ : GS) (h : Heap) : KC k 18 c0 σ h (fun x σ h => G x (σ 2) h) = n0 k G (σ 0) h := (kseq (b := c1) rfl (fun σ h => n1_eq k G σ h)).trans (n0_eq0 k G σ h)
def run {R : Type} (k : Nat) (a0 : GV) (h : Heap) (fin : GV → Heap → Option R) : Option R := n0 k (fun x v2 h => kend x (fin v2 h)) a0 h
theorem run_eq {R : Type} (k : Nat) (a0 : GV) (h : Heap) (fin : GV → Heap → Option R) : kfun PP cfg NN HH k fn.spec_Sum [a0] h fin = run k a0 h fin := (kfun_eq (nt := 18) (c := c0) (show PP.funcs[fn.spec_Sum]? = some Tryd.f51 by kernel_rfl) (by kernel_rfl) (by kernel_rfl) (fun x σ h => by cases x <;> kernel_rfl)).trans (n0_eq k (fun x v2 h => kend x (fin v2 h)) _ h)
theorem gives {k : Nat} {a0 : GV} {v : GV} (e : run k a0 [] finN = some v) : NN fn.spec_Sum [a0] = some v := nω_of (by kernel_rfl) ((run_eq k a0 [] finN).trans e)
end S.spec_Sum
/-! spec_l3Int -/
namespace S.spec_l3Int
noncomputable def c0 : Code := bodyOf Tryd.f67
noncomputable def c1 : Code := cR c0
noncomputable def c2 : Code := cR c1
noncomputable def c3 : Code := cR c2
noncomputable def c4 : Code := cR c3
noncomputable def c5 : Code := cR c4
@[simp] def n5 {R : Type} (k : Nat) (G : KT1 R) (v3 : GV) (h : Heap) : Option R := G .ret v3 h
theorem n5_eq {R : Type} (k : Nat) (G : KT1 R) (σ : GS) (h : Heap) : KC k 33 c5 σ h (fun x σ h => G x (σ 2) h) = n5 k G (σ 3) h := by kernel_rfl
noncomputable def c6 : Code := cL c4
@[simp] def n4 {R : Type} (k : Nat) (G : KT1 R) (v2 v3 v4 : GV) (h : Heap) : Option R := kcond v4 ((kbin .add (.str { data := #[45] }) v3).bind fun v31 => n5 k G v31 h) (n5 k G v3 h)
theorem n4_eq0 {R : Type} (k : Nat) (G : KT1 R) (σ : GS) (h : Heap) : KC k 33 c6 σ h (fun x σ h => kx x (n5 k G (σ 3) h) (G x (σ 2) h)) = n4 k G (σ 2) (σ 3) (σ 4) h := by kernel_rfl
theorem n4_eq {R : Type} (k : Nat) (G : KT1 R) (σ : GS) (h : Heap) : KC k 33 c4 σ h (fun x σ h => G x (σ 2) h) = n4 k G (σ 2) (σ 3) (σ 4) h := (kseq (b := c5) rfl (fun σ h => n5_eq k G σ h)).trans (n4_eq0 k G σ h)
noncomputable def c7 : Code := cL c3
noncomputable def c8 : Code := cL c7
noncomputable def c9 : Code := cL c8
noncomputable def c10 : Code := cR c9
noncomputable def c11 : Code := cL c10
noncomputable def c12 : Code := cR c11
noncomputable def c13 : Code := cR c12
@[simp] def n13 {R : Type} (k : Nat) (G : KT4 R) (v0 v2 v3 v4 v5 : GV) (h : Heap) : Option R := (kbin .add (.int .i64 48) v5).bind fun v21 => (kconvI .u8 v21).bind fun v22 => (gfill (fun i => some (i * 1, 1)) (zeros [(.int .u8 0)] 1) [(0, v22)]).bind fun c => kbs 1 1 c h fun v23 h => (kbstr h v23).bind fun v24 => (kbin .add v24 v3).bind fun v26 => (kbin .quo v0 (.int .i64 10)).bind fun v28 => G .nrm v28 v2 v26 v4 h
theorem n13_eq {R : Type} (k : Nat) (G : KT4 R) (σ : GS) (h : Heap) : KC k 33 c13 σ h (fun x σ h => G x (σ 0) (σ 2) (σ 3) (σ 4) h) = n13 k G (σ 0) (σ 2) (σ 3) (σ 4) (σ 5) h := by kernel_rfl
noncomputable def c14 : Code := cL c12
@[simp] def n12 {R : Type} (k : Nat) (G : KT4 R) (v0 v2 v3 v4 v5 : GV) (h : Heap) : Option R := (kbin .lss v5 (.int .i64 0)).bind fun v17 => kcond v17 ((kun .neg v5).bind fun v19 => n13 k G v0 v2 v3 v4 v19 h) (n13 k G v0 v2 v3 v4 v5 h)
theorem n12_eq0 {R : Type} (k : Nat) (G : KT4 R) (σ : GS) (h : Heap) : KC k 33 c14 σ h (fun x σ h => kx x (n13 k G (σ 0) (σ 2) (σ 3) (σ 4) (σ 5) h) (G x (σ 0) (σ 2) (σ 3) (σ 4) h)) = n12 k G (σ 0) (σ 2) (σ 3) (σ 4) (σ 5) h := by kernel_rfl
theorem n12_eq {R : Type} (k : Nat) (G : KT4 R) (σ : GS) (h : Heap) : KC k 33 c12 σ h (fun x σ h => G x (σ 0) (σ 2) (σ 3) (σ 4) h) = n12 k G (σ 0) (σ 2) (σ 3) (σ 4) (σ 5) h := (kseq (b := c13) rfl (fun σ h => n13_eq k G σ h)).trans (n12_eq0 k G σ h)
noncomputable def c15 : Code := cL c11
@[simp] def n11 {R : Type} (k : Nat) (G : KT4 R) (v0 v2 v3 v4 : GV) (h : Heap) : Option R := (kbin .rem v0 (.int .i64 10)).bind fun v15 => n12 k G v0 v2 v3 v4 v15 h
theorem n11_eq0 {R : Type} (k : Nat) (G : KT4 R) (σ : GS) (h : Heap) : KC k 33 c15 σ h (fun x σ h => kx x (n12 k G (σ 0) (σ 2) (σ 3) (σ 4) (σ 5) h) (G x (σ 0) (σ 2) (σ 3) (σ 4) h)) = n11 k G (σ 0) (σ 2) (σ 3) (σ 4) h := by kernel_rfl
theorem n11_eq {R : Type} (k : Nat) (G : KT4 R) (σ : GS) (h : Heap) : KC k 33 c11 σ h (fun x σ h => G x (σ 0) (σ 2) (σ 3) (σ 4) h) = n11 k G (σ 0) (σ 2) (σ 3) (σ 4) h := (kseq (b := c12) rfl (fun σ h => n12_eq k G σ h)).trans (n11_eq0 k G σ h)
@[simp] def n10 {R : Type} (k : Nat) (G : KT4 R) (v0 v2 v3 v4 : GV) (h : Heap) : Option R := n11 k (fun x v0 v2 v3 v4 h => kb 1 x fun x => G x v0 v2 v3 v4 h) v0 v2 v3 v4 h
theorem n10_eq {R : Type} (k : Nat) (G : KT4 R) (σ : GS) (h : Heap) : KC k 33 c10 σ h (fun x σ h => G x (σ 0) (σ 2) (σ 3) (σ 4) h) = n10 k G (σ 0) (σ 2) (σ 3) (σ 4) h := (kblock_eq (a := c11) rfl).trans (n11_eq k (fun x v0 v2 v3 v4 h => kb 1 x fun x => G x v0 v2 v3 v4 h) σ h)
noncomputable def c16 : Code := cL c9
noncomputable def c17 : Code := cR c16
@[simp] def n17 {R : Type} (k : Nat) (G : KT4 R) (v0 v2 v3 v4 v13 : GV) (h : Heap) : Option R := kcond v13 (G .nrm v0 v2 v3 v4 h) (G (.ext 0) v0 v2 v3 v4 h)
theorem n17_eq {R : Type} (k : Nat) (G : KT4 R) (σ : GS) (h : Heap) : KC k 33 c17 σ h (fun x σ h => G x (σ 0) (σ 2) (σ 3) (σ 4) h) = n17 k G (σ 0) (σ 2) (σ 3) (σ 4) (σ 13) h := by kernel_rfl
noncomputable def c18 : Code := cL c16
noncomputable def o18 : Array Oper := cO c18
@[simp] def g18_2 {R : Type} (k : Nat) (G : KT5 R) (v0 v2 v3 v4 v10 v12 : GV) (h : Heap) : Option R := (kpick v10 (.bool true) v12).bind fun v13 => G .nrm v0 v2 v3 v4 v13 h
theorem g18_2_eq {R : Type} (k : Nat) (G : KT5 R) (σ : GS) (h : Heap) : kgroups PP cfg NN HH 33 o18 [(none, [5])] σ h (fun σ h => G .nrm (σ 0) (σ 2) (σ 3) (σ 4) (σ 13) h) = g18_2 k G (σ 0) (σ 2) (σ 3) (σ 4) (σ 10) (σ 12) h := by kernel_rfl
@[simp] def g18_1 {R : Type} (k : Nat) (G : KT5 R) (v0 v2 v3 v4 v10 : GV) (h : Heap) : Option R := bif tr false v10 then (kbin .neq v0 (.int .i64 0)).bind fun v12 => g18_2 k G v0 v2 v3 v4 v10 v12 h else g18_2 k G v0 v2 v3 v4 v10 .un h
theorem g18_1_eq0 {R : Type} (k : Nat) (G : KT5 R) (σ : GS) (h : Heap) : kgroup1 PP cfg NN HH 33 o18 (some (2, false), [3, 4]) σ h (fun σ h => g18_2 k G (σ 0) (σ 2) (σ 3) (σ 4) (σ 10) (σ 12) h) = g18_1 k G (σ 0) (σ 2) (σ 3) (σ 4) (σ 10) h := by kernel_rfl
theorem g18_1_eq {R : Type} (k : Nat) (G : KT5 R) (σ : GS) (h : Heap) : kgroups PP cfg NN HH 33 o18 [(some (2, false), [3, 4]), (none, [5])] σ h (fun σ h => G .nrm (σ 0) (σ 2) (σ 3) (σ 4) (σ 13) h) = g18_1 k G (σ 0) (σ 2) (σ 3) (σ 4) (σ 10) h := (kgroups_cons (fun σ h => g18_2_eq k G σ h)).trans (g18_1_eq0 k G σ h)
@[simp] def g18_0 {R : Type} (k : Nat) (G : KT5 R) (v0 v2 v3 v4 : GV) (h : Heap) : Option R := (kbin .eql v3 (.str { data := #[] })).bind fun v9 => g18_1 k G v0 v2 v3 v4 v9 h
theorem g18_0_eq0 {R : Type} (k : Nat) (G : KT5 R) (σ : GS) (h : Heap) : kgroup1 PP cfg NN HH 33 o18 (none, [0, 1, 2]) σ h (fun σ h => g18_1 k G (σ 0) (σ 2) (σ 3) (σ 4) (σ 10) h) = g18_0 k G (σ 0) (σ 2) (σ 3) (σ 4) h := by kernel_rfl
theorem g18_0_eq {R : Type} (k : Nat) (G : KT5 R) (σ : GS) (h : Heap) : kgroups PP cfg NN HH 33 o18 [(none, [0, 1, 2]), (some (2, false), [3, 4]), (none, [5])] σ h (fun σ h => G .nrm (σ 0) (σ 2) (σ 3) (σ 4) (σ 13) h) = g18_0 k G (σ 0) (σ 2) (σ 3) (σ 4) h := (kgroups_cons (fun σ h => g18_1_eq k G σ h)).trans (g18_0_eq0 k G σ h)
@[simp] def n18 {R : Type} (k : Nat) (G : KT5 R) (v0 v2 v3 v4 : GV) (h : Heap) : Option R := g18_0 k G v0 v2 v3 v4 h
theorem n18_eq {R : Type} (k : Nat) (G : KT5 R) (σ : GS) (h : Heap) : KC k 33 c18 σ h (fun x σ h => G x (σ 0) (σ 2) (σ 3) (σ 4) (σ 13) h) = n18 k G (σ 0) (σ 2) (σ 3) (σ 4) h := (kregion_eq (id := 3) (draw := false) (ops := o18) (gs := [(none, [0, 1, 2]), (some (2, false), [3, 4]), (none, [5])]) (by kernel_rfl) (by kernel_rfl) (by kernel_rfl)).trans (g18_0_eq k G σ h)
@[simp] def n16 {R : Type} (k : Nat) (G : KT4 R) (v0 v2 v3 v4 : GV) (h : Heap) : Option R := n18 k (fun x v0 v2 v3 v4 v13 h => kx x (n17 k G v0 v2 v3 v4 v13 h) (G x v0 v2 v3 v4 h)) v0 v2 v3 v4 h
theorem n16_eq {R : Type} (k : Nat) (G : KT4 R) (σ : GS) (h : Heap) : KC k 33 c16 σ h (fun x σ h => G x (σ 0) (σ 2) (σ 3) (σ 4) h) = n16 k G (σ 0) (σ 2) (σ 3) (σ 4) h := (kseq (b := c17) rfl (fun σ h => n17_eq k G σ h)).trans (n18_eq k (fun x v0 v2 v3 v4 v13 h => kx x (n17 k G v0 v2 v3 v4 v13 h) (G x v0 v2 v3 v4 h)) σ h)
@[simp] def n9 {R : Type} (k : Nat) (G : KT4 R) (v0 v2 v3 v4 : GV) (h : Heap) : Option R := n16 k (fun x v0 v2 v3 v4 h => kx x (n10 k G v0 v2 v3 v4 h) (G x v0 v2 v3 v4 h)) v0 v2 v3 v4 h
theorem n9_eq {R : Type} (k : Nat) (G : KT4 R) (σ : GS) (h : Heap) : KC k 33 c9 σ h (fun x σ h => G x (σ 0) (σ 2) (σ 3) (σ 4) h) = n9 k G (σ 0) (σ 2) (σ 3) (σ 4) h := (kseq (b := c10) rfl (fun σ h => n10_eq k G σ h)).trans (n16_eq k (fun x v0 v2 v3 v4 h => kx x (n10 k G v0 v2 v3 v4 h) (G x v0 v2 v3 v4 h)) σ h)
def l8 {R : Type} (k : Nat) (G : KT3 R) : Nat → GV → GV → GV → GV → Heap → Option R
  | 0, _, _, _, _, _ => none
  | r + 1, v0, v2, v3, v4, h => n9 k (fun x v0 v2 v3 v4 h => kx x (l8 k G r v0 v2 v3 v4 h) (G x v2 v3 v4 h)) v0 v2 v3 v4 h
theorem l8_eq {R : Type} (k : Nat) (G : KT3 R) : ∀ (r : Nat) (σ : GS) (h : Heap), kloop (fun σ h K => KC k 33 c9 σ h K) r σ h (fun x σ h => G x (σ 2) (σ 3) (σ 4) h) = l8 k G r (σ 0) (σ 2) (σ 3) (σ 4) h
  | 0, _, _ => rfl
  | r + 1, σ, h => (kloop_eq (fun σ h => l8_eq k G r σ h)).trans (n9_eq k (fun x v0 v2 v3 v4 h => kx x (l8 k G r v0 v2 v3 v4 h) (G x v2 v3 v4 h)) σ h)
@[simp] def n8 {R : Type} (k : Nat) (G : KT3 R) (v0 v2 v3 v4 : GV) (h : Heap) : Option R := l8 k G k v0 v2 v3 v4 h
theorem n8_eq {R : Type} (k : Nat) (G : KT3 R) (σ : GS) (h : Heap) : KC k 33 c8 σ h (fun x σ h => G x (σ 2) (σ 3) (σ 4) h) = n8 k G (σ 0) (σ 2) (σ 3) (σ 4) h := (kloopc_eq (a := c9) rfl).trans (l8_eq k G k σ h)
@[simp] def n7 {R : Type} (k : Nat) (G : KT3 R) (v0 v2 v3 v4 : GV) (h : Heap) : Option R := n8 k (fun x v2 v3 v4 h => kb 0 x fun x => G x v2 v3 v4 h) v0 v2 v3 v4 h
theorem n7_eq {R : Type} (k : Nat) (G : KT3 R) (σ : GS) (h : Heap) : KC k 33 c7 σ h (fun x σ h => G x (σ 2) (σ 3) (σ 4) h) = n7 k G (σ 0) (σ 2) (σ 3) (σ 4) h := (kblock_eq (a := c8) rfl).trans (n8_eq k (fun x v2 v3 v4 h => kb 0 x fun x => G x v2 v3 v4 h) σ h)
@[simp] def n3 {R : Type} (k : Nat) (G : KT1 R) (v0 v2 v3 v4 : GV) (h : Heap) : Option R := n7 k (fun x v2 v3 v4 h => kx x (n4 k G v2 v3 v4 h) (G x v2 h)) v0 v2 v3 v4 h
theorem n3_eq {R : Type} (k : Nat) (G : KT1 R) (σ : GS) (h : Heap) : KC k 33 c3 σ h (fun x σ h => G x (σ 2) h) = n3 k G (σ 0) (σ 2) (σ 3) (σ 4) h := (kseq (b := c4) rfl (fun σ h => n4_eq k G σ h)).trans (n7_eq k (fun x v2 v3 v4 h => kx x (n4 k G v2 v3 v4 h) (G x v2 h)) σ h)
noncomputable def c19 : Code := cL c2
@[simp] def n2 {R : Type} (k : Nat) (G : KT1 R) (v0 v2 v3 : GV) (h : Heap) : Option R := (kbin .lss v0 (.int .i64 0)).bind fun v7 => n3 k G v0 v2 v3 v7 h
theorem n2_eq0 {R : Type} (k : Nat) (G : KT1 R) (σ : GS) (h : Heap) : KC k 33 c19 σ h (fun x σ h => kx x (n3 k G (σ 0) (σ 2) (σ 3) (σ 4) h) (G x (σ 2) h)) = n2 k G (σ 0) (σ 2) (σ 3) h := by kernel_rfl
theorem n2_eq {R : Type} (k : Nat) (G : KT1 R) (σ : GS) (h : Heap) : KC k 33 c2 σ h (fun x σ h => G x (σ 2) h) = n2 k G (σ 0) (σ 2) (σ 3) h := (kseq (b := c3) rfl (fun σ h => n3_eq k G σ h)).trans (n2_eq0 k G σ h)
noncomputable def c20 : Code := cL c1
@[simp] def n1 {R : Type} (k : Nat) (G : KT1 R) (v0 v2 : GV) (h : Heap) : Option R := n2 k G v0 v2 (.str { data := #[] }) h
theorem n1_eq0 {R : Type} (k : Nat) (G : KT1 R) (σ : GS) (h : Heap) : KC k 33 c20 σ h (fun x σ h => kx x (n2 k G (σ 0) (σ 2) (σ 3) h) (G x (σ 2) h)) = n1 k G (σ 0) (σ 2) h := by kernel_rfl
theorem n1_eq {R : Type} (k : Nat) (G : KT1 R) (σ : GS) (h : Heap) : KC k 33 c1 σ h (fun x σ h => G x (σ 2) h) = n1 k G (σ 0) (σ 2) h := (kseq (b := c2) rfl (fun σ h => n2_eq k G σ h)).trans (n1_eq0 k G σ h)
noncomputable def c21 : Code := cL c0
@[simp] def n0 {R : Type} (k : Nat) (G : KT1 R) (v0 : GV) (h : Heap) : Option R := n1 k G v0 (.str { data := #[] }) h
theorem n0_eq0 {R : Type} (k : Nat) (G : KT1 R) (σ : GS) (h : Heap) : KC k 33 c21 σ h (fun x σ h => kx x (n1 k G (σ 0) (σ 2) h) (G x (σ 2) h)) = n0 k G (σ 0) h := by kernel_rfl
theorem n0_eq {R : Type} (k : Nat) (G : KT1 R) (σ : GS) (h : Heap) : KC k 33 c0 σ h (fun x σ h => G x (σ 2) h) = n0 k G (σ 0) h := (kseq (b := c1) rfl (fun σ h => n1_eq k G σ h)).trans (n0_eq0 k G σ h)
def run {R : Type} (k : Nat) (a0 : GV) (h : Heap) (fin : GV → Heap → Option R) : Option R := n0 k (fun x v2 h => kend x (fin v2 h)) a0 h
theorem run_eq {R : Type} (k : Nat) (a0 : GV) (h : Heap) (fin : GV → Heap → Option R) : kfun PP cfg NN HH k fn.spec_l3Int [a0] h fin = run k a0 h fin := (kfun_eq (nt := 33) (c := c0) (show PP.funcs[fn.spec_l3Int]? = some Tryd.f67 by kernel_rfl) (by kernel_rfl) (by kernel_rfl) (fun x σ h => by cases x <;> kernel_rfl)).trans (n0_eq k (fun x v2 h => kend x (fin v2 h)) _ h)
theorem gives {k : Nat} {a0 : GV} {v : GV} (e : run k a0 [] finN = some v) : NN fn.spec_l3Int [a0] = some v := nω_of (by kernel_rfl) ((run_eq k a0 [] finN).trans e)
end S.spec_l3Int
/-! impl_decimal -/
namespace S.impl_decimal
noncomputable def c0 : Code := bodyOf Tryd.f68
@[simp] def n0 {R : Type} (k : Nat) (G : KT1 R) (v0 : GV) (h : Heap) : Option R := (kN NN fn.strconv_FormatInt [v0, (.int .i64 10)] h).bind fun v4 => G .ret v4 h
theorem n0_eq {R : Type} (k : Nat) (G : KT1 R) (σ : GS) (h : Heap) : KC k 5 c0 σ h (fun x σ h => G x (σ 2) h) = n0 k G (σ 0) h := by kernel_rfl
def run {R : Type} (k : Nat) (a0 : GV) (h : Heap) (fin : GV → Heap → Option R) : Option R := n0 k (fun x v2 h => kend x (fin v2 h)) a0 h
theorem run_eq {R : Type} (k : Nat) (a0 : GV) (h : Heap) (fin : GV → Heap → Option R) : kfun PP cfg NN HH k fn.impl_decimal [a0] h fin = run k a0 h fin := (kfun_eq (nt := 5) (c := c0) (show PP.funcs[fn.impl_decimal]? = some Tryd.f68 by kernel_rfl) (by kernel_rfl) (by kernel_rfl) (fun x σ h => by cases x <;> kernel_rfl)).trans (n0_eq k (fun x v2 h => kend x (fin v2 h)) _ h)
theorem gives {k : Nat} {a0 : GV} {v : GV} (e : run k a0 [] finN = some v) : NN fn.impl_decimal [a0] = some v := nω_of (by kernel_rfl) ((run_eq k a0 [] finN).trans e)
end S.impl_decimal
/-! spec_l14Told -/
namespace S.spec_l14Told
noncomputable def c0 : Code := bodyOf Tryd.f69
noncomputable def c1 : Code := cR c0
noncomputable def c2 : Code := cR c1
@[simp] def n2 {R : Type} (k : Nat) (G : KT1 R) (v6 : GV) (h : Heap) : Option R := G .ret v6 h
theorem n2_eq {R : Type} (k : Nat) (G : KT1 R) (σ : GS) (h : Heap) : KC k 18 c2 σ h (fun x σ h => G x (σ 6) h) = n2 k G (σ 6) h := by kernel_rfl
noncomputable def c3 : Code := cL c1
noncomputable def o3 : Array Oper := cO c3
@[simp] def g3_4 {R : Type} (k : Nat) (G : KT1 R) (v14 v16 : GV) (h : Heap) : Option R := (kpick v14 v16 (.bool false)).bind fun v17 => G .nrm v17 h
theorem g3_4_eq {R : Type} (k : Nat) (G : KT1 R) (σ : GS) (h : Heap) : kgroups PP cfg NN HH 18 o3 [(none, [10, 11])] σ h (fun σ h => G .nrm (σ 6) h) = g3_4 k G (σ 14) (σ 16) h := by kernel_rfl
@[simp] def g3_3 {R : Type} (k : Nat) (G : KT1 R) (v2 v14 : GV) (h : Heap) : Option R := bif tr true v14 then (kbin .leq v2 (.int .i64 4000)).bind fun v16 => g3_4 k G v14 v16 h else g3_4 k G v14 .un h
theorem g3_3_eq0 {R : Type} (k : Nat) (G : KT1 R) (σ : GS) (h : Heap) : kgroup1 PP cfg NN HH 18 o3 (some (7, true), [8, 9]) σ h (fun σ h => g3_4 k G (σ 14) (σ 16) h) = g3_3 k G (σ 2) (σ 14) h := by kernel_rfl
theorem g3_3_eq {R : Type} (k : Nat) (G : KT1 R) (σ : GS) (h : Heap) : kgroups PP cfg NN HH 18 o3 [(some (7, true), [8, 9]), (none, [10, 11])] σ h (fun σ h => G .nrm (σ 6) h) = g3_3 k G (σ 2) (σ 14) h := (kgroups_cons (fun σ h => g3_4_eq k G σ h)).trans (g3_3_eq0 k G σ h)
@[simp] def g3_2 {R : Type} (k : Nat) (G : KT1 R) (v2 v10 v12 : GV) (h : Heap) : Option R := (kpick v10 v12 (.bool false)).bind fun v13 => g3_3 k G v2 v13 h
theorem g3_2_eq0 {R : Type} (k : Nat) (G : KT1 R) (σ : GS) (h : Heap) : kgroup1 PP cfg NN HH 18 o3 (none, [6, 7]) σ h (fun σ h => g3_3 k G (σ 2) (σ 14) h) = g3_2 k G (σ 2) (σ 10) (σ 12) h := by kernel_rfl
theorem g3_2_eq {R : Type} (k : Nat) (G : KT1 R) (σ : GS) (h : Heap) : kgroups PP cfg NN HH 18 o3 [(none, [6, 7]), (some (7, true), [8, 9]), (none, [10, 11])] σ h (fun σ h => G .nrm (σ 6) h) = g3_2 k G (σ 2) (σ 10) (σ 12) h := (kgroups_cons (fun σ h => g3_3_eq k G σ h)).trans (g3_2_eq0 k G σ h)
@[simp] def g3_1 {R : Type} (k : Nat) (G : KT1 R) (v1 v2 v10 : GV) (h : Heap) : Option R := bif tr true v10 then (kN NN fn.spec_l1In [v1, (.int .i64 0), (.int .i64 1099511627776)] h).bind fun v12 => g3_2 k G v2 v10 v12 h else g3_2 k G v2 v10 .un h
theorem g3_1_eq0 {R : Type} (k : Nat) (G : KT1 R) (σ : GS) (h : Heap) : kgroup1 PP cfg NN HH 18 o3 (some (3, true), [4, 5]) σ h (fun σ h => g3_2 k G (σ 2) (σ 10) (σ 12) h) = g3_1 k G (σ 1) (σ 2) (σ 10) h := by kernel_rfl
theorem g3_1_eq {R : Type} (k : Nat) (G : KT1 R) (σ : GS) (h : Heap) : kgroups PP cfg NN HH 18 o3 [(some (3, true), [4, 5]), (none, [6, 7]), (some (7, true), [8, 9]), (none, [10, 11])] σ h (fun σ h => G .nrm (σ 6) h) = g3_1 k G (σ 1) (σ 2) (σ 10) h := (kgroups_cons (fun σ h => g3_2_eq k G σ h)).trans (g3_1_eq0 k G σ h)
@[simp] def g3_0 {R : Type} (k : Nat) (G : KT1 R) (v0 v1 v2 : GV) (h : Heap) : Option R := (klenS v0).bind fun v8 => (kbin .eql v8 (.int .i64 16)).bind fun v9 => g3_1 k G v1 v2 v9 h
theorem g3_0_eq0 {R : Type} (k : Nat) (G : KT1 R) (σ : GS) (h : Heap) : kgroup1 PP cfg NN HH 18 o3 (none, [0, 1, 2, 3]) σ h (fun σ h => g3_1 k G (σ 1) (σ 2) (σ 10) h) = g3_0 k G (σ 0) (σ 1) (σ 2) h := by kernel_rfl
theorem g3_0_eq {R : Type} (k : Nat) (G : KT1 R) (σ : GS) (h : Heap) : kgroups PP cfg NN HH 18 o3 [(none, [0, 1, 2, 3]), (some (3, true), [4, 5]), (none, [6, 7]), (some (7, true), [8, 9]), (none, [10, 11])] σ h (fun σ h => G .nrm (σ 6) h) = g3_0 k G (σ 0) (σ 1) (σ 2) h := (kgroups_cons (fun σ h => g3_1_eq k G σ h)).trans (g3_0_eq0 k G σ h)
@[simp] def n3 {R : Type} (k : Nat) (G : KT1 R) (v0 v1 v2 : GV) (h : Heap) : Option R := g3_0 k G v0 v1 v2 h
theorem n3_eq {R : Type} (k : Nat) (G : KT1 R) (σ : GS) (h : Heap) : KC k 18 c3 σ h (fun x σ h => G x (σ 6) h) = n3 k G (σ 0) (σ 1) (σ 2) h := (kregion_eq (id := 1) (draw := false) (ops := o3) (gs := [(none, [0, 1, 2, 3]), (some (3, true), [4, 5]), (none, [6, 7]), (some (7, true), [8, 9]), (none, [10, 11])]) (by kernel_rfl) (by kernel_rfl) (by kernel_rfl)).trans (g3_0_eq k G σ h)
@[simp] def n1 {R : Type} (k : Nat) (G : KT1 R) (v0 v1 v2 : GV) (h : Heap) : Option R := n3 k (fun x v6 h => kx x (n2 k G v6 h) (G x v6 h)) v0 v1 v2 h
theorem n1_eq {R : Type} (k : Nat) (G : KT1 R) (σ : GS) (h : Heap) : KC k 18 c1 σ h (fun x σ h => G x (σ 6) h) = n1 k G (σ 0) (σ 1) (σ 2) h := (kseq (b := c2) rfl (fun σ h => n2_eq k G σ h)).trans (n3_eq k (fun x v6 h => kx x (n2 k G v6 h) (G x v6 h)) σ h)
noncomputable def c4 : Code := cL c0
@[simp] def n0 {R : Type} (k : Nat) (G : KT1 R) (v0 v1 v2 : GV) (h : Heap) : Option R := n1 k G v0 v1 v2 h
theorem n0_eq0 {R : Type} (k : Nat) (G : KT1 R) (σ : GS) (h : Heap) : KC k 18 c4 σ h (fun x σ h => kx x (n1 k G (σ 0) (σ 1) (σ 2) h) (G x (σ 6) h)) = n0 k G (σ 0) (σ 1) (σ 2) h := by kernel_rfl
theorem n0_eq {R : Type} (k : Nat) (G : KT1 R) (σ : GS) (h : Heap) : KC k 18 c0 σ h (fun x σ h => G x (σ 6) h) = n0 k G (σ 0) (σ 1) (σ 2) h := (kseq (b := c1) rfl (fun σ h => n1_eq k G σ h)).trans (n0_eq0 k G σ h)
def run {R : Type} (k : Nat) (a0 : GV) (a1 : GV) (a2 : GV) (h : Heap) (fin : GV → Heap → Option R) : Option R := n0 k (fun x v6 h => kend x (fin v6 h)) a0 a1 a2 h
theorem run_eq {R : Type} (k : Nat) (a0 : GV) (a1 : GV) (a2 : GV) (h : Heap) (fin : GV → Heap → Option R) : kfun PP cfg NN HH k fn.spec_l14Told [a0, a1, a2] h fin = run k a0 a1 a2 h fin := (kfun_eq (nt := 18) (c := c0) (show PP.funcs[fn.spec_l14Told]? = some Tryd.f69 by kernel_rfl) (by kernel_rfl) (by kernel_rfl) (fun x σ h => by cases x <;> kernel_rfl)).trans (n0_eq k (fun x v6 h => kend x (fin v6 h)) _ h)
theorem gives {k : Nat} {a0 : GV} {a1 : GV} {a2 : GV} {v : GV} (e : run k a0 a1 a2 [] finN = some v) : NN fn.spec_l14Told [a0, a1, a2] = some v := nω_of (by kernel_rfl) ((run_eq k a0 a1 a2 [] finN).trans e)
end S.spec_l14Told
/-! spec_l14Xor -/
namespace S.spec_l14Xor
noncomputable def c0 : Code := bodyOf Tryd.f70
noncomputable def c1 : Code := cR c0
noncomputable def c2 : Code := cR c1
noncomputable def c3 : Code := cR c2
@[simp] def n3 {R : Type} (k : Nat) (G : KT1 R) (v5 : GV) (h : Heap) : Option R := (kbstr h v5).bind fun v27 => G .ret v27 h
theorem n3_eq {R : Type} (k : Nat) (G : KT1 R) (σ : GS) (h : Heap) : KC k 28 c3 σ h (fun x σ h => G x (σ 4) h) = n3 k G (σ 5) h := by kernel_rfl
noncomputable def c4 : Code := cL c2
noncomputable def c5 : Code := cR c4
noncomputable def c6 : Code := cL c5
noncomputable def c7 : Code := cL c6
noncomputable def c8 : Code := cR c7
noncomputable def c9 : Code := cR c8
@[simp] def n9 {R : Type} (k : Nat) (G : KT4 R) (v1 v4 v5 v6 : GV) (h : Heap) : Option R := (kbin .add v6 (.int .i64 1)).bind fun v14 => G .nrm v1 v4 v5 v14 h
theorem n9_eq {R : Type} (k : Nat) (G : KT4 R) (σ : GS) (h : Heap) : KC k 28 c9 σ h (fun x σ h => G x (σ 1) (σ 4) (σ 5) (σ 6) h) = n9 k G (σ 1) (σ 4) (σ 5) (σ 6) h := by kernel_rfl
noncomputable def c10 : Code := cL c8
noncomputable def c11 : Code := cL c10
@[simp] def n11 {R : Type} (k : Nat) (G : KT4 R) (v1 v4 v5 v6 : GV) (h : Heap) : Option R := (kia 1 v5 v6).bind fun v19 => (kload1 h v19).bind fun v20 => (kbyte v1 v6).bind fun v23 => (kbin .xor v20 v23).bind fun v24 => (kia 1 v5 v6).bind fun v25 => (kstore 1 h v25 v24).bind fun h => G .nrm v1 v4 v5 v6 h
theorem n11_eq {R : Type} (k : Nat) (G : KT4 R) (σ : GS) (h : Heap) : KC k 28 c11 σ h (fun x σ h => G x (σ 1) (σ 4) (σ 5) (σ 6) h) = n11 k G (σ 1) (σ 4) (σ 5) (σ 6) h := by kernel_rfl
@[simp] def n10 {R : Type} (k : Nat) (G : KT4 R) (v1 v4 v5 v6 : GV) (h : Heap) : Option R := n11 k (fun x v1 v4 v5 v6 h => kb 1 x fun x => G x v1 v4 v5 v6 h) v1 v4 v5 v6 h
theorem n10_eq {R : Type} (k : Nat) (G : KT4 R) (σ : GS) (h : Heap) : KC k 28 c10 σ h (fun x σ h => G x (σ 1) (σ 4) (σ 5) (σ 6) h) = n10 k G (σ 1) (σ 4) (σ 5) (σ 6) h := (kblock_eq (a := c11) rfl).trans (n11_eq k (fun x v1 v4 v5 v6 h => kb 1 x fun x => G x v1 v4 v5 v6 h) σ h)
@[simp] def n8 {R : Type} (k : Nat) (G : KT4 R) (v1 v4 v5 v6 : GV) (h : Heap) : Option R := n10 k (fun x v1 v4 v5 v6 h => kx x (n9 k G v1 v4 v5 v6 h) (G x v1 v4 v5 v6 h)) v1 v4 v5 v6 h
theorem n8_eq {R : Type} (k : Nat) (G : KT4 R) (σ : GS) (h : Heap) : KC k 28 c8 σ h (fun x σ h => G x (σ 1) (σ 4) (σ 5) (σ 6) h) = n8 k G (σ 1) (σ 4) (σ 5) (σ 6) h := (kseq (b := c9) rfl (fun σ h => n9_eq k G σ h)).trans (n10_eq k (fun x v1 v4 v5 v6 h => kx x (n9 k G v1 v4 v5 v6 h) (G x v1 v4 v5 v6 h)) σ h)
noncomputable def c12 : Code := cL c7
@[simp] def n7 {R : Type} (k : Nat) (G : KT4 R) (v1 v4 v5 v6 : GV) (h : Heap) : Option R := (klen v5).bind fun v11 => (kbin .lss v6 v11).bind fun v12 => kcond v12 (n8 k G v1 v4 v5 v6 h) (G (.ext 0) v1 v4 v5 v6 h)
theorem n7_eq0 {R : Type} (k : Nat) (G : KT4 R) (σ : GS) (h : Heap) : KC k 28 c12 σ h (fun x σ h => kx x (n8 k G (σ 1) (σ 4) (σ 5) (σ 6) h) (G x (σ 1) (σ 4) (σ 5) (σ 6) h)) = n7 k G (σ 1) (σ 4) (σ 5) (σ 6) h := by kernel_rfl
theorem n7_eq {R : Type} (k : Nat) (G : KT4 R) (σ : GS) (h : Heap) : KC k 28 c7 σ h (fun x σ h => G x (σ 1) (σ 4) (σ 5) (σ 6) h) = n7 k G (σ 1) (σ 4) (σ 5) (σ 6) h := (kseq (b := c8) rfl (fun σ h => n8_eq k G σ h)).trans (n7_eq0 k G σ h)
def l6 {R : Type} (k : Nat) (G : KT2 R) : Nat → GV → GV → GV → GV → Heap → Option R
  | 0, _, _, _, _, _ => none
  | r + 1, v1, v4, v5, v6, h => n7 k (fun x v1 v4 v5 v6 h => kx x (l6 k G r v1 v4 v5 v6 h) (G x v4 v5 h)) v1 v4 v5 v6 h
theorem l6_eq {R : Type} (k : Nat) (G : KT2 R) : ∀ (r : Nat) (σ : GS) (h : Heap), kloop (fun σ h K => KC k 28 c7 σ h K) r σ h (fun x σ h => G x (σ 4) (σ 5) h) = l6 k G r (σ 1) (σ 4) (σ 5) (σ 6) h
  | 0, _, _ => rfl
  | r + 1, σ, h => (kloop_eq (fun σ h => l6_eq k G r σ h)).trans (n7_eq k (fun x v1 v4 v5 v6 h => kx x (l6 k G r v1 v4 v5 v6 h) (G x v4 v5 h)) σ h)
@[simp] def n6 {R : Type} (k : Nat) (G : KT2 R) (v1 v4 v5 v6 : GV) (h : Heap) : Option R := l6 k G k v1 v4 v5 v6 h
theorem n6_eq {R : Type} (k : Nat) (G : KT2 R) (σ : GS) (h : Heap) : KC k 28 c6 σ h (fun x σ h => G x (σ 4) (σ 5) h) = n6 k G (σ 1) (σ 4) (σ 5) (σ 6) h := (kloopc_eq (a := c7) rfl).trans (l6_eq k G k σ h)
@[simp] def n5 {R : Type} (k : Nat) (G : KT2 R) (v1 v4 v5 v6 : GV) (h : Heap) : Option R := n6 k (fun x v4 v5 h => kb 0 x fun x => G x v4 v5 h) v1 v4 v5 v6 h
theorem n5_eq {R : Type} (k : Nat) (G : KT2 R) (σ : GS) (h : Heap) : KC k 28 c5 σ h (fun x σ h => G x (σ 4) (σ 5) h) = n5 k G (σ 1) (σ 4) (σ 5) (σ 6) h := (kblock_eq (a := c6) rfl).trans (n6_eq k (fun x v4 v5 h => kb 0 x fun x => G x v4 v5 h) σ h)
noncomputable def c13 : Code := cL c4
@[simp] def n4 {R : Type} (k : Nat) (G : KT2 R) (v1 v4 v5 : GV) (h : Heap) : Option R := n5 k G v1 v4 v5 (.int .i64 0) h
theorem n4_eq0 {R : Type} (k : Nat) (G : KT2 R) (σ : GS) (h : Heap) : KC k 28 c13 σ h (fun x σ h => kx x (n5 k G (σ 1) (σ 4) (σ 5) (σ 6) h) (G x (σ 4) (σ 5) h)) = n4 k G (σ 1) (σ 4) (σ 5) h := by kernel_rfl
theorem n4_eq {R : Type} (k : Nat) (G : KT2 R) (σ : GS) (h : Heap) : KC k 28 c4 σ h (fun x σ h => G x (σ 4) (σ 5) h) = n4 k G (σ 1) (σ 4) (σ 5) h := (kseq (b := c5) rfl (fun σ h => n5_eq k G σ h)).trans (n4_eq0 k G σ h)
@[simp] def n2 {R : Type} (k : Nat) (G : KT1 R) (v1 v4 v5 : GV) (h : Heap) : Option R := n4 k (fun x v4 v5 h => kx x (n3 k G v5 h) (G x v4 h)) v1 v4 v5 h
theorem n2_eq {R : Type} (k : Nat) (G : KT1 R) (σ : GS) (h : Heap) : KC k 28 c2 σ h (fun x σ h => G x (σ 4) h) = n2 k G (σ 1) (σ 4) (σ 5) h := (kseq (b := c3) rfl (fun σ h => n3_eq k G σ h)).trans (n4_eq k (fun x v4 v5 h => kx x (n3 k G v5 h) (G x v4 h)) σ h)
noncomputable def c14 : Code := cL c1
@[simp] def n1 {R : Type} (k : Nat) (G : KT1 R) (v0 v1 v4 : GV) (h : Heap) : Option R := (kstr v0).bind fun s => kby s h fun v8 h => n2 k G v1 v4 v8 h
theorem n1_eq0 {R : Type} (k : Nat) (G : KT1 R) (σ : GS) (h : Heap) : KC k 28 c14 σ h (fun x σ h => kx x (n2 k G (σ 1) (σ 4) (σ 5) h) (G x (σ 4) h)) = n1 k G (σ 0) (σ 1) (σ 4) h := by kernel_rfl
theorem n1_eq {R : Type} (k : Nat) (G : KT1 R) (σ : GS) (h : Heap) : KC k 28 c1 σ h (fun x σ h => G x (σ 4) h) = n1 k G (σ 0) (σ 1) (σ 4) h := (kseq (b := c2) rfl (fun σ h => n2_eq k G σ h)).trans (n1_eq0 k G σ h)
noncomputable def c15 : Code := cL c0
@[simp] def n0 {R : Type} (k : Nat) (G : KT1 R) (v0 v1 : GV) (h : Heap) : Option R := n1 k G v0 v1 (.str { data := #[] }) h
theorem n0_eq0 {R : Type} (k : Nat) (G : KT1 R) (σ : GS) (h : Heap) : KC k 28 c15 σ h (fun x σ h => kx x (n1 k G (σ 0) (σ 1) (σ 4) h) (G x (σ 4) h)) = n0 k G (σ 0) (σ 1) h := by kernel_rfl
theorem n0_eq {R : Type} (k : Nat) (G : KT1 R) (σ : GS) (h : Heap) : KC k 28 c0 σ h (fun x σ h => G x (σ 4) h) = n0 k G (σ 0) (σ 1) h := (kseq (b := c1) rfl (fun σ h => n1_eq k G σ h)).trans (n0_eq0 k G σ h)
def run {R : Type} (k : Nat) (a0 : GV) (a1 : GV) (h : Heap) (fin : GV → Heap → Option R) : Option R := n0 k (fun x v4 h => kend x (fin v4 h)) a0 a1 h
theorem run_eq {R : Type} (k : Nat) (a0 : GV) (a1 : GV) (h : Heap) (fin : GV → Heap → Option R) : kfun PP cfg NN HH k fn.spec_l14Xor [a0, a1] h fin = run k a0 a1 h fin := (kfun_eq (nt := 28) (c := c0) (show PP.funcs[fn.spec_l14Xor]? = some Tryd.f70 by kernel_rfl) (by kernel_rfl) (by kernel_rfl) (fun x σ h => by cases x <;> kernel_rfl)).trans (n0_eq k (fun x v4 h => kend x (fin v4 h)) _ h)
theorem gives {k : Nat} {a0 : GV} {a1 : GV} {v : GV} (e : run k a0 a1 [] finN = some v) : NN fn.spec_l14Xor [a0, a1] = some v := nω_of (by kernel_rfl) ((run_eq k a0 a1 [] finN).trans e)
end S.spec_l14Xor
/-! impl_isSeal -/
namespace S.impl_isSeal
noncomputable def c0 : Code := bodyOf Tryd.f71
noncomputable def c1 : Code := cR c0
noncomputable def c2 : Code := cR c1
@[simp] def n2 {R : Type} (k : Nat) (G : KT1 R) (v6 : GV) (h : Heap) : Option R := G .ret v6 h
theorem n2_eq {R : Type} (k : Nat) (G : KT1 R) (σ : GS) (h : Heap) : KC k 18 c2 σ h (fun x σ h => G x (σ 6) h) = n2 k G (σ 6) h := by kernel_rfl
noncomputable def c3 : Code := cL c1
noncomputable def o3 : Array Oper := cO c3
@[simp] def g3_4 {R : Type} (k : Nat) (G : KT1 R) (v14 v16 : GV) (h : Heap) : Option R := (kpick v14 v16 (.bool false)).bind fun v17 => G .nrm v17 h
theorem g3_4_eq {R : Type} (k : Nat) (G : KT1 R) (σ : GS) (h : Heap) : kgroups PP cfg NN HH 18 o3 [(none, [10, 11])] σ h (fun σ h => G .nrm (σ 6) h) = g3_4 k G (σ 14) (σ 16) h := by kernel_rfl
@[simp] def g3_3 {R : Type} (k : Nat) (G : KT1 R) (v2 v14 : GV) (h : Heap) : Option R := bif tr true v14 then (kN NN fn.impl_in [v2, (.int .i64 0), (.int .i64 4000)] h).bind fun v16 => g3_4 k G v14 v16 h else g3_4 k G v14 .un h
theorem g3_3_eq0 {R : Type} (k : Nat) (G : KT1 R) (σ : GS) (h : Heap) : kgroup1 PP cfg NN HH 18 o3 (some (7, true), [8, 9]) σ h (fun σ h => g3_4 k G (σ 14) (σ 16) h) = g3_3 k G (σ 2) (σ 14) h := by kernel_rfl
theorem g3_3_eq {R : Type} (k : Nat) (G : KT1 R) (σ : GS) (h : Heap) : kgroups PP cfg NN HH 18 o3 [(some (7, true), [8, 9]), (none, [10, 11])] σ h (fun σ h => G .nrm (σ 6) h) = g3_3 k G (σ 2) (σ 14) h := (kgroups_cons (fun σ h => g3_4_eq k G σ h)).trans (g3_3_eq0 k G σ h)
@[simp] def g3_2 {R : Type} (k : Nat) (G : KT1 R) (v2 v10 v12 : GV) (h : Heap) : Option R := (kpick v10 v12 (.bool false)).bind fun v13 => g3_3 k G v2 v13 h
theorem g3_2_eq0 {R : Type} (k : Nat) (G : KT1 R) (σ : GS) (h : Heap) : kgroup1 PP cfg NN HH 18 o3 (none, [6, 7]) σ h (fun σ h => g3_3 k G (σ 2) (σ 14) h) = g3_2 k G (σ 2) (σ 10) (σ 12) h := by kernel_rfl
theorem g3_2_eq {R : Type} (k : Nat) (G : KT1 R) (σ : GS) (h : Heap) : kgroups PP cfg NN HH 18 o3 [(none, [6, 7]), (some (7, true), [8, 9]), (none, [10, 11])] σ h (fun σ h => G .nrm (σ 6) h) = g3_2 k G (σ 2) (σ 10) (σ 12) h := (kgroups_cons (fun σ h => g3_3_eq k G σ h)).trans (g3_2_eq0 k G σ h)
@[simp] def g3_1 {R : Type} (k : Nat) (G : KT1 R) (v1 v2 v10 : GV) (h : Heap) : Option R := bif tr true v10 then (kN NN fn.impl_in [v1, (.int .i64 0), (.int .i64 1099511627776)] h).bind fun v12 => g3_2 k G v2 v10 v12 h else g3_2 k G v2 v10 .un h
theorem g3_1_eq0 {R : Type} (k : Nat) (G : KT1 R) (σ : GS) (h : Heap) : kgroup1 PP cfg NN HH 18 o3 (some (3, true), [4, 5]) σ h (fun σ h => g3_2 k G (σ 2) (σ 10) (σ 12) h) = g3_1 k G (σ 1) (σ 2) (σ 10) h := by kernel_rfl
theorem g3_1_eq {R : Type} (k : Nat) (G : KT1 R) (σ : GS) (h : Heap) : kgroups PP cfg NN HH 18 o3 [(some (3, true), [4, 5]), (none, [6, 7]), (some (7, true), [8, 9]), (none, [10, 11])] σ h (fun σ h => G .nrm (σ 6) h) = g3_1 k G (σ 1) (σ 2) (σ 10) h := (kgroups_cons (fun σ h => g3_2_eq k G σ h)).trans (g3_1_eq0 k G σ h)
@[simp] def g3_0 {R : Type} (k : Nat) (G : KT1 R) (v0 v1 v2 : GV) (h : Heap) : Option R := (klenS v0).bind fun v8 => (kbin .eql v8 (.int .i64 16)).bind fun v9 => g3_1 k G v1 v2 v9 h
theorem g3_0_eq0 {R : Type} (k : Nat) (G : KT1 R) (σ : GS) (h : Heap) : kgroup1 PP cfg NN HH 18 o3 (none, [0, 1, 2, 3]) σ h (fun σ h => g3_1 k G (σ 1) (σ 2) (σ 10) h) = g3_0 k G (σ 0) (σ 1) (σ 2) h := by kernel_rfl
theorem g3_0_eq {R : Type} (k : Nat) (G : KT1 R) (σ : GS) (h : Heap) : kgroups PP cfg NN HH 18 o3 [(none, [0, 1, 2, 3]), (some (3, true), [4, 5]), (none, [6, 7]), (some (7, true), [8, 9]), (none, [10, 11])] σ h (fun σ h => G .nrm (σ 6) h) = g3_0 k G (σ 0) (σ 1) (σ 2) h := (kgroups_cons (fun σ h => g3_1_eq k G σ h)).trans (g3_0_eq0 k G σ h)
@[simp] def n3 {R : Type} (k : Nat) (G : KT1 R) (v0 v1 v2 : GV) (h : Heap) : Option R := g3_0 k G v0 v1 v2 h
theorem n3_eq {R : Type} (k : Nat) (G : KT1 R) (σ : GS) (h : Heap) : KC k 18 c3 σ h (fun x σ h => G x (σ 6) h) = n3 k G (σ 0) (σ 1) (σ 2) h := (kregion_eq (id := 1) (draw := false) (ops := o3) (gs := [(none, [0, 1, 2, 3]), (some (3, true), [4, 5]), (none, [6, 7]), (some (7, true), [8, 9]), (none, [10, 11])]) (by kernel_rfl) (by kernel_rfl) (by kernel_rfl)).trans (g3_0_eq k G σ h)
@[simp] def n1 {R : Type} (k : Nat) (G : KT1 R) (v0 v1 v2 : GV) (h : Heap) : Option R := n3 k (fun x v6 h => kx x (n2 k G v6 h) (G x v6 h)) v0 v1 v2 h
theorem n1_eq {R : Type} (k : Nat) (G : KT1 R) (σ : GS) (h : Heap) : KC k 18 c1 σ h (fun x σ h => G x (σ 6) h) = n1 k G (σ 0) (σ 1) (σ 2) h := (kseq (b := c2) rfl (fun σ h => n2_eq k G σ h)).trans (n3_eq k (fun x v6 h => kx x (n2 k G v6 h) (G x v6 h)) σ h)
noncomputable def c4 : Code := cL c0
@[simp] def n0 {R : Type} (k : Nat) (G : KT1 R) (v0 v1 v2 : GV) (h : Heap) : Option R := n1 k G v0 v1 v2 h
theorem n0_eq0 {R : Type} (k : Nat) (G : KT1 R) (σ : GS) (h : Heap) : KC k 18 c4 σ h (fun x σ h => kx x (n1 k G (σ 0) (σ 1) (σ 2) h) (G x (σ 6) h)) = n0 k G (σ 0) (σ 1) (σ 2) h := by kernel_rfl
theorem n0_eq {R : Type} (k : Nat) (G : KT1 R) (σ : GS) (h : Heap) : KC k 18 c0 σ h (fun x σ h => G x (σ 6) h) = n0 k G (σ 0) (σ 1) (σ 2) h := (kseq (b := c1) rfl (fun σ h => n1_eq k G σ h)).trans (n0_eq0 k G σ h)
def run {R : Type} (k : Nat) (a0 : GV) (a1 : GV) (a2 : GV) (h : Heap) (fin : GV → Heap → Option R) : Option R := n0 k (fun x v6 h => kend x (fin v6 h)) a0 a1 a2 h
theorem run_eq {R : Type} (k : Nat) (a0 : GV) (a1 : GV) (a2 : GV) (h : Heap) (fin : GV → Heap → Option R) : kfun PP cfg NN HH k fn.impl_isSeal [a0, a1, a2] h fin = run k a0 a1 a2 h fin := (kfun_eq (nt := 18) (c := c0) (show PP.funcs[fn.impl_isSeal]? = some Tryd.f71 by kernel_rfl) (by kernel_rfl) (by kernel_rfl) (fun x σ h => by cases x <;> kernel_rfl)).trans (n0_eq k (fun x v6 h => kend x (fin v6 h)) _ h)
theorem gives {k : Nat} {a0 : GV} {a1 : GV} {a2 : GV} {v : GV} (e : run k a0 a1 a2 [] finN = some v) : NN fn.impl_isSeal [a0, a1, a2] = some v := nω_of (by kernel_rfl) ((run_eq k a0 a1 a2 [] finN).trans e)
end S.impl_isSeal
/-! impl_xored -/
namespace S.impl_xored
noncomputable def c0 : Code := bodyOf Tryd.f72
noncomputable def c1 : Code := cR c0
noncomputable def c2 : Code := cR c1
noncomputable def c3 : Code := cR c2
@[simp] def n3 {R : Type} (k : Nat) (G : KT1 R) (v7 : GV) (h : Heap) : Option R := (kbstr h v7).bind fun v31 => G .ret v31 h
theorem n3_eq {R : Type} (k : Nat) (G : KT1 R) (σ : GS) (h : Heap) : KC k 32 c3 σ h (fun x σ h => G x (σ 6) h) = n3 k G (σ 7) h := by kernel_rfl
noncomputable def c4 : Code := cL c2
noncomputable def c5 : Code := cR c4
noncomputable def c6 : Code := cL c5
noncomputable def c7 : Code := cL c6
noncomputable def c8 : Code := cR c7
noncomputable def c9 : Code := cR c8
noncomputable def c10 : Code := cR c9
@[simp] def n10 {R : Type} (k : Nat) (G : KT5 R) (v2 v6 v7 v16 v17 : GV) (h : Heap) : Option R := (kbin .add v17 (.int .i64 1)).bind fun v29 => G .nrm v2 v6 v7 v16 v29 h
theorem n10_eq {R : Type} (k : Nat) (G : KT5 R) (σ : GS) (h : Heap) : KC k 32 c10 σ h (fun x σ h => G x (σ 2) (σ 6) (σ 7) (σ 16) (σ 17) h) = n10 k G (σ 2) (σ 6) (σ 7) (σ 16) (σ 17) h := by kernel_rfl
noncomputable def c11 : Code := cL c9
noncomputable def c12 : Code := cL c11
@[simp] def n12 {R : Type} (k : Nat) (G : KT5 R) (v2 v6 v7 v16 v17 : GV) (h : Heap) : Option R := (kia 1 v7 v17).bind fun v22 => (kload1 h v22).bind fun v23 => (kbyte v2 v17).bind fun v26 => (kbin .xor v23 v26).bind fun v27 => (kia 1 v7 v17).bind fun v28 => (kstore 1 h v28 v27).bind fun h => G .nrm v2 v6 v7 v16 v17 h
theorem n12_eq {R : Type} (k : Nat) (G : KT5 R) (σ : GS) (h : Heap) : KC k 32 c12 σ h (fun x σ h => G x (σ 2) (σ 6) (σ 7) (σ 16) (σ 17) h) = n12 k G (σ 2) (σ 6) (σ 7) (σ 16) (σ 17) h := by kernel_rfl
@[simp] def n11 {R : Type} (k : Nat) (G : KT5 R) (v2 v6 v7 v16 v17 : GV) (h : Heap) : Option R := n12 k (fun x v2 v6 v7 v16 v17 h => kb 1 x fun x => G x v2 v6 v7 v16 v17 h) v2 v6 v7 v16 v17 h
theorem n11_eq {R : Type} (k : Nat) (G : KT5 R) (σ : GS) (h : Heap) : KC k 32 c11 σ h (fun x σ h => G x (σ 2) (σ 6) (σ 7) (σ 16) (σ 17) h) = n11 k G (σ 2) (σ 6) (σ 7) (σ 16) (σ 17) h := (kblock_eq (a := c12) rfl).trans (n12_eq k (fun x v2 v6 v7 v16 v17 h => kb 1 x fun x => G x v2 v6 v7 v16 v17 h) σ h)
@[simp] def n9 {R : Type} (k : Nat) (G : KT5 R) (v2 v6 v7 v16 v17 : GV) (h : Heap) : Option R := n11 k (fun x v2 v6 v7 v16 v17 h => kx x (n10 k G v2 v6 v7 v16 v17 h) (G x v2 v6 v7 v16 v17 h)) v2 v6 v7 v16 v17 h
theorem n9_eq {R : Type} (k : Nat) (G : KT5 R) (σ : GS) (h : Heap) : KC k 32 c9 σ h (fun x σ h => G x (σ 2) (σ 6) (σ 7) (σ 16) (σ 17) h) = n9 k G (σ 2) (σ 6) (σ 7) (σ 16) (σ 17) h := (kseq (b := c10) rfl (fun σ h => n10_eq k G σ h)).trans (n11_eq k (fun x v2 v6 v7 v16 v17 h => kx x (n10 k G v2 v6 v7 v16 v17 h) (G x v2 v6 v7 v16 v17 h)) σ h)
noncomputable def c13 : Code := cL c8
@[simp] def n8 {R : Type} (k : Nat) (G : KT5 R) (v2 v6 v7 v16 v17 v18 : GV) (h : Heap) : Option R := kcond v18 (n9 k G v2 v6 v7 v16 v17 h) (G (.ext 0) v2 v6 v7 v16 v17 h)
theorem n8_eq0 {R : Type} (k : Nat) (G : KT5 R) (σ : GS) (h : Heap) : KC k 32 c13 σ h (fun x σ h => kx x (n9 k G (σ 2) (σ 6) (σ 7) (σ 16) (σ 17) h) (G x (σ 2) (σ 6) (σ 7) (σ 16) (σ 17) h)) = n8 k G (σ 2) (σ 6) (σ 7) (σ 16) (σ 17) (σ 18) h := by kernel_rfl
theorem n8_eq {R : Type} (k : Nat) (G : KT5 R) (σ : GS) (h : Heap) : KC k 32 c8 σ h (fun x σ h => G x (σ 2) (σ 6) (σ 7) (σ 16) (σ 17) h) = n8 k G (σ 2) (σ 6) (σ 7) (σ 16) (σ 17) (σ 18) h := (kseq (b := c9) rfl (fun σ h => n9_eq k G σ h)).trans (n8_eq0 k G σ h)
noncomputable def c14 : Code := cL c7
@[simp] def n7 {R : Type} (k : Nat) (G : KT5 R) (v2 v6 v7 v16 v17 : GV) (h : Heap) : Option R := (kbin .lss v17 v16).bind fun v18 => n8 k G v2 v6 v7 v16 v17 v18 h
theorem n7_eq0 {R : Type} (k : Nat) (G : KT5 R) (σ : GS) (h : Heap) : KC k 32 c14 σ h (fun x σ h => kx x (n8 k G (σ 2) (σ 6) (σ 7) (σ 16) (σ 17) (σ 18) h) (G x (σ 2) (σ 6) (σ 7) (σ 16) (σ 17) h)) = n7 k G (σ 2) (σ 6) (σ 7) (σ 16) (σ 17) h := by kernel_rfl
theorem n7_eq {R : Type} (k : Nat) (G : KT5 R) (σ : GS) (h : Heap) : KC k 32 c7 σ h (fun x σ h => G x (σ 2) (σ 6) (σ 7) (σ 16) (σ 17) h) = n7 k G (σ 2) (σ 6) (σ 7) (σ 16) (σ 17) h := (kseq (b := c8) rfl (fun σ h => n8_eq k G σ h)).trans (n7_eq0 k G σ h)
def l6 {R : Type} (k : Nat) (G : KT2 R) : Nat → GV → GV → GV → GV → GV → Heap → Option R
  | 0, _, _, _, _, _, _ => none
  | r + 1, v2, v6, v7, v16, v17, h => n7 k (fun x v2 v6 v7 v16 v17 h => kx x (l6 k G r v2 v6 v7 v16 v17 h) (G x v6 v7 h)) v2 v6 v7 v16 v17 h
theorem l6_eq {R : Type} (k : Nat) (G : KT2 R) : ∀ (r : Nat) (σ : GS) (h : Heap), kloop (fun σ h K => KC k 32 c7 σ h K) r σ h (fun x σ h => G x (σ 6) (σ 7) h) = l6 k G r (σ 2) (σ 6) (σ 7) (σ 16) (σ 17) h
  | 0, _, _ => rfl
  | r + 1, σ, h => (kloop_eq (fun σ h => l6_eq k G r σ h)).trans (n7_eq k (fun x v2 v6 v7 v16 v17 h => kx x (l6 k G r v2 v6 v7 v16 v17 h) (G x v6 v7 h)) σ h)
@[simp] def n6 {R : Type} (k : Nat) (G : KT2 R) (v2 v6 v7 v16 v17 : GV) (h : Heap) : Option R := l6 k G k v2 v6 v7 v16 v17 h
theorem n6_eq {R : Type} (k : Nat) (G : KT2 R) (σ : GS) (h : Heap) : KC k 32 c6 σ h (fun x σ h => G x (σ 6) (σ 7) h) = n6 k G (σ 2) (σ 6) (σ 7) (σ 16) (σ 17) h := (kloopc_eq (a := c7) rfl).trans (l6_eq k G k σ h)
@[simp] def n5 {R : Type} (k : Nat) (G : KT2 R) (v2 v6 v7 v16 v17 : GV) (h : Heap) : Option R := n6 k (fun x v6 v7 h => kb 0 x fun x => G x v6 v7 h) v2 v6 v7 v16 v17 h
theorem n5_eq {R : Type} (k : Nat) (G : KT2 R) (σ : GS) (h : Heap) : KC k 32 c5 σ h (fun x σ h => G x (σ 6) (σ 7) h) = n5 k G (σ 2) (σ 6) (σ 7) (σ 16) (σ 17) h := (kblock_eq (a := c6) rfl).trans (n6_eq k (fun x v6 v7 h => kb 0 x fun x => G x v6 v7 h) σ h)
noncomputable def c15 : Code := cL c4
@[simp] def n4 {R : Type} (k : Nat) (G : KT2 R) (v2 v6 v7 : GV) (h : Heap) : Option R := (klen v7).bind fun v16 => n5 k G v2 v6 v7 v16 (.int .i64 0) h
theorem n4_eq0 {R : Type} (k : Nat) (G : KT2 R) (σ : GS) (h : Heap) : KC k 32 c15 σ h (fun x σ h => kx x (n5 k G (σ 2) (σ 6) (σ 7) (σ 16) (σ 17) h) (G x (σ 6) (σ 7) h)) = n4 k G (σ 2) (σ 6) (σ 7) h := by kernel_rfl
theorem n4_eq {R : Type} (k : Nat) (G : KT2 R) (σ : GS) (h : Heap) : KC k 32 c4 σ h (fun x σ h => G x (σ 6) (σ 7) h) = n4 k G (σ 2) (σ 6) (σ 7) h := (kseq (b := c5) rfl (fun σ h => n5_eq k G σ h)).trans (n4_eq0 k G σ h)
@[simp] def n2 {R : Type} (k : Nat) (G : KT1 R) (v2 v6 v7 : GV) (h : Heap) : Option R := n4 k (fun x v6 v7 h => kx x (n3 k G v7 h) (G x v6 h)) v2 v6 v7 h
theorem n2_eq {R : Type} (k : Nat) (G : KT1 R) (σ : GS) (h : Heap) : KC k 32 c2 σ h (fun x σ h => G x (σ 6) h) = n2 k G (σ 2) (σ 6) (σ 7) h := (kseq (b := c3) rfl (fun σ h => n3_eq k G σ h)).trans (n4_eq k (fun x v6 v7 h => kx x (n3 k G v7 h) (G x v6 h)) σ h)
noncomputable def c16 : Code := cL c1
@[simp] def n1 {R : Type} (k : Nat) (G : KT1 R) (v0 v1 v2 v6 : GV) (h : Heap) : Option R := (klenS v2).bind fun v12 => (kN NN fn.impl_Stream [v0, v1, v12] h).bind fun v13 => (kstr v13).bind fun s => kby s h fun v14 h => n2 k G v2 v6 v14 h
theorem n1_eq0 {R : Type} (k : Nat) (G : KT1 R) (σ : GS) (h : Heap) : KC k 32 c16 σ h (fun x σ h => kx x (n2 k G (σ 2) (σ 6) (σ 7) h) (G x (σ 6) h)) = n1 k G (σ 0) (σ 1) (σ 2) (σ 6) h := by kernel_rfl
theorem n1_eq {R : Type} (k : Nat) (G : KT1 R) (σ : GS) (h : Heap) : KC k 32 c1 σ h (fun x σ h => G x (σ 6) h) = n1 k G (σ 0) (σ 1) (σ 2) (σ 6) h := (kseq (b := c2) rfl (fun σ h => n2_eq k G σ h)).trans (n1_eq0 k G σ h)
noncomputable def c17 : Code := cL c0
@[simp] def n0 {R : Type} (k : Nat) (G : KT1 R) (v0 v1 v2 : GV) (h : Heap) : Option R := n1 k G v0 v1 v2 (.str { data := #[] }) h
theorem n0_eq0 {R : Type} (k : Nat) (G : KT1 R) (σ : GS) (h : Heap) : KC k 32 c17 σ h (fun x σ h => kx x (n1 k G (σ 0) (σ 1) (σ 2) (σ 6) h) (G x (σ 6) h)) = n0 k G (σ 0) (σ 1) (σ 2) h := by kernel_rfl
theorem n0_eq {R : Type} (k : Nat) (G : KT1 R) (σ : GS) (h : Heap) : KC k 32 c0 σ h (fun x σ h => G x (σ 6) h) = n0 k G (σ 0) (σ 1) (σ 2) h := (kseq (b := c1) rfl (fun σ h => n1_eq k G σ h)).trans (n0_eq0 k G σ h)
def run {R : Type} (k : Nat) (a0 : GV) (a1 : GV) (a2 : GV) (h : Heap) (fin : GV → Heap → Option R) : Option R := n0 k (fun x v6 h => kend x (fin v6 h)) a0 a1 a2 h
theorem run_eq {R : Type} (k : Nat) (a0 : GV) (a1 : GV) (a2 : GV) (h : Heap) (fin : GV → Heap → Option R) : kfun PP cfg NN HH k fn.impl_xored [a0, a1, a2] h fin = run k a0 a1 a2 h fin := (kfun_eq (nt := 32) (c := c0) (show PP.funcs[fn.impl_xored]? = some Tryd.f72 by kernel_rfl) (by kernel_rfl) (by kernel_rfl) (fun x σ h => by cases x <;> kernel_rfl)).trans (n0_eq k (fun x v6 h => kend x (fin v6 h)) _ h)
theorem gives {k : Nat} {a0 : GV} {a1 : GV} {a2 : GV} {v : GV} (e : run k a0 a1 a2 [] finN = some v) : NN fn.impl_xored [a0, a1, a2] = some v := nω_of (by kernel_rfl) ((run_eq k a0 a1 a2 [] finN).trans e)
end S.impl_xored
/-! impl_begun -/
namespace S.impl_begun
noncomputable def c0 : Code := bodyOf Tryd.f89
noncomputable def c1 : Code := cR c0
noncomputable def c2 : Code := cR c1
@[simp] def n2 {R : Type} (k : Nat) (G : KT1 R) (v0 v2 : GV) (h : Heap) : Option R := (kN NN fn.impl_Mix [v0, v2] h).bind fun v22 => G .ret v22 h
theorem n2_eq {R : Type} (k : Nat) (G : KT1 R) (σ : GS) (h : Heap) : KC k 23 c2 σ h (fun x σ h => G x (σ 6) h) = n2 k G (σ 0) (σ 2) h := by kernel_rfl
noncomputable def c3 : Code := cL c1
noncomputable def c4 : Code := cR c3
noncomputable def c5 : Code := cL c4
noncomputable def c6 : Code := cL c5
noncomputable def c7 : Code := cR c6
noncomputable def c8 : Code := cR c7
noncomputable def c9 : Code := cR c8
@[simp] def n9 {R : Type} (k : Nat) (G : KT6 R) (v0 v1 v2 v6 v9 v10 : GV) (h : Heap) : Option R := (kbin .add v10 (.int .i64 1)).bind fun v19 => G .nrm v0 v1 v2 v6 v9 v19 h
theorem n9_eq {R : Type} (k : Nat) (G : KT6 R) (σ : GS) (h : Heap) : KC k 23 c9 σ h (fun x σ h => G x (σ 0) (σ 1) (σ 2) (σ 6) (σ 9) (σ 10) h) = n9 k G (σ 0) (σ 1) (σ 2) (σ 6) (σ 9) (σ 10) h := by kernel_rfl
noncomputable def c10 : Code := cL c8
noncomputable def c11 : Code := cL c10
@[simp] def n11 {R : Type} (k : Nat) (G : KT6 R) (v0 v1 v2 v6 v9 v10 : GV) (h : Heap) : Option R := (kbyte v1 v10).bind fun v16 => (kconvI .i64 v16).bind fun v17 => (kN NN fn.impl_Mix [v0, v17] h).bind fun v18 => G .nrm v18 v1 v2 v6 v9 v10 h
theorem n11_eq {R : Type} (k : Nat) (G : KT6 R) (σ : GS) (h : Heap) : KC k 23 c11 σ h (fun x σ h => G x (σ 0) (σ 1) (σ 2) (σ 6) (σ 9) (σ 10) h) = n11 k G (σ 0) (σ 1) (σ 2) (σ 6) (σ 9) (σ 10) h := by kernel_rfl
@[simp] def n10 {R : Type} (k : Nat) (G : KT6 R) (v0 v1 v2 v6 v9 v10 : GV) (h : Heap) : Option R := n11 k (fun x v0 v1 v2 v6 v9 v10 h => kb 1 x fun x => G x v0 v1 v2 v6 v9 v10 h) v0 v1 v2 v6 v9 v10 h
theorem n10_eq {R : Type} (k : Nat) (G : KT6 R) (σ : GS) (h : Heap) : KC k 23 c10 σ h (fun x σ h => G x (σ 0) (σ 1) (σ 2) (σ 6) (σ 9) (σ 10) h) = n10 k G (σ 0) (σ 1) (σ 2) (σ 6) (σ 9) (σ 10) h := (kblock_eq (a := c11) rfl).trans (n11_eq k (fun x v0 v1 v2 v6 v9 v10 h => kb 1 x fun x => G x v0 v1 v2 v6 v9 v10 h) σ h)
@[simp] def n8 {R : Type} (k : Nat) (G : KT6 R) (v0 v1 v2 v6 v9 v10 : GV) (h : Heap) : Option R := n10 k (fun x v0 v1 v2 v6 v9 v10 h => kx x (n9 k G v0 v1 v2 v6 v9 v10 h) (G x v0 v1 v2 v6 v9 v10 h)) v0 v1 v2 v6 v9 v10 h
theorem n8_eq {R : Type} (k : Nat) (G : KT6 R) (σ : GS) (h : Heap) : KC k 23 c8 σ h (fun x σ h => G x (σ 0) (σ 1) (σ 2) (σ 6) (σ 9) (σ 10) h) = n8 k G (σ 0) (σ 1) (σ 2) (σ 6) (σ 9) (σ 10) h := (kseq (b := c9) rfl (fun σ h => n9_eq k G σ h)).trans (n10_eq k (fun x v0 v1 v2 v6 v9 v10 h => kx x (n9 k G v0 v1 v2 v6 v9 v10 h) (G x v0 v1 v2 v6 v9 v10 h)) σ h)
noncomputable def c12 : Code := cL c7
@[simp] def n7 {R : Type} (k : Nat) (G : KT6 R) (v0 v1 v2 v6 v9 v10 v11 : GV) (h : Heap) : Option R := kcond v11 (n8 k G v0 v1 v2 v6 v9 v10 h) (G (.ext 0) v0 v1 v2 v6 v9 v10 h)
theorem n7_eq0 {R : Type} (k : Nat) (G : KT6 R) (σ : GS) (h : Heap) : KC k 23 c12 σ h (fun x σ h => kx x (n8 k G (σ 0) (σ 1) (σ 2) (σ 6) (σ 9) (σ 10) h) (G x (σ 0) (σ 1) (σ 2) (σ 6) (σ 9) (σ 10) h)) = n7 k G (σ 0) (σ 1) (σ 2) (σ 6) (σ 9) (σ 10) (σ 11) h := by kernel_rfl
theorem n7_eq {R : Type} (k : Nat) (G : KT6 R) (σ : GS) (h : Heap) : KC k 23 c7 σ h (fun x σ h => G x (σ 0) (σ 1) (σ 2) (σ 6) (σ 9) (σ 10) h) = n7 k G (σ 0) (σ 1) (σ 2) (σ 6) (σ 9) (σ 10) (σ 11) h := (kseq (b := c8) rfl (fun σ h => n8_eq k G σ h)).trans (n7_eq0 k G σ h)
noncomputable def c13 : Code := cL c6
@[simp] def n6 {R : Type} (k : Nat) (G : KT6 R) (v0 v1 v2 v6 v9 v10 : GV) (h : Heap) : Option R := (kbin .lss v10 v9).bind fun v11 => n7 k G v0 v1 v2 v6 v9 v10 v11 h
theorem n6_eq0 {R : Type} (k : Nat) (G : KT6 R) (σ : GS) (h : Heap) : KC k 23 c13 σ h (fun x σ h => kx x (n7 k G (σ 0) (σ 1) (σ 2) (σ 6) (σ 9) (σ 10) (σ 11) h) (G x (σ 0) (σ 1) (σ 2) (σ 6) (σ 9) (σ 10) h)) = n6 k G (σ 0) (σ 1) (σ 2) (σ 6) (σ 9) (σ 10) h := by kernel_rfl
theorem n6_eq {R : Type} (k : Nat) (G : KT6 R) (σ : GS) (h : Heap) : KC k 23 c6 σ h (fun x σ h => G x (σ 0) (σ 1) (σ 2) (σ 6) (σ 9) (σ 10) h) = n6 k G (σ 0) (σ 1) (σ 2) (σ 6) (σ 9) (σ 10) h := (kseq (b := c7) rfl (fun σ h => n7_eq k G σ h)).trans (n6_eq0 k G σ h)
def l5 {R : Type} (k : Nat) (G : KT3 R) : Nat → GV → GV → GV → GV → GV → GV → Heap → Option R
  | 0, _, _, _, _, _, _, _ => none
  | r + 1, v0, v1, v2, v6, v9, v10, h => n6 k (fun x v0 v1 v2 v6 v9 v10 h => kx x (l5 k G r v0 v1 v2 v6 v9 v10 h) (G x v0 v2 v6 h)) v0 v1 v2 v6 v9 v10 h
theorem l5_eq {R : Type} (k : Nat) (G : KT3 R) : ∀ (r : Nat) (σ : GS) (h : Heap), kloop (fun σ h K => KC k 23 c6 σ h K) r σ h (fun x σ h => G x (σ 0) (σ 2) (σ 6) h) = l5 k G r (σ 0) (σ 1) (σ 2) (σ 6) (σ 9) (σ 10) h
  | 0, _, _ => rfl
  | r + 1, σ, h => (kloop_eq (fun σ h => l5_eq k G r σ h)).trans (n6_eq k (fun x v0 v1 v2 v6 v9 v10 h => kx x (l5 k G r v0 v1 v2 v6 v9 v10 h) (G x v0 v2 v6 h)) σ h)
@[simp] def n5 {R : Type} (k : Nat) (G : KT3 R) (v0 v1 v2 v6 v9 v10 : GV) (h : Heap) : Option R := l5 k G k v0 v1 v2 v6 v9 v10 h
theorem n5_eq {R : Type} (k : Nat) (G : KT3 R) (σ : GS) (h : Heap) : KC k 23 c5 σ h (fun x σ h => G x (σ 0) (σ 2) (σ 6) h) = n5 k G (σ 0) (σ 1) (σ 2) (σ 6) (σ 9) (σ 10) h := (kloopc_eq (a := c6) rfl).trans (l5_eq k G k σ h)
@[simp] def n4 {R : Type} (k : Nat) (G : KT3 R) (v0 v1 v2 v6 v9 v10 : GV) (h : Heap) : Option R := n5 k (fun x v0 v2 v6 h => kb 0 x fun x => G x v0 v2 v6 h) v0 v1 v2 v6 v9 v10 h
theorem n4_eq {R : Type} (k : Nat) (G : KT3 R) (σ : GS) (h : Heap) : KC k 23 c4 σ h (fun x σ h => G x (σ 0) (σ 2) (σ 6) h) = n4 k G (σ 0) (σ 1) (σ 2) (σ 6) (σ 9) (σ 10) h := (kblock_eq (a := c5) rfl).trans (n5_eq k (fun x v0 v2 v6 h => kb 0 x fun x => G x v0 v2 v6 h) σ h)
noncomputable def c14 : Code := cL c3
@[simp] def n3 {R : Type} (k : Nat) (G : KT3 R) (v0 v1 v2 v6 : GV) (h : Heap) : Option R := (klenS v1).bind fun v9 => n4 k G v0 v1 v2 v6 v9 (.int .i64 0) h
theorem n3_eq0 {R : Type} (k : Nat) (G : KT3 R) (σ : GS) (h : Heap) : KC k 23 c14 σ h (fun x σ h => kx x (n4 k G (σ 0) (σ 1) (σ 2) (σ 6) (σ 9) (σ 10) h) (G x (σ 0) (σ 2) (σ 6) h)) = n3 k G (σ 0) (σ 1) (σ 2) (σ 6) h := by kernel_rfl
theorem n3_eq {R : Type} (k : Nat) (G : KT3 R) (σ : GS) (h : Heap) : KC k 23 c3 σ h (fun x σ h => G x (σ 0) (σ 2) (σ 6) h) = n3 k G (σ 0) (σ 1) (σ 2) (σ 6) h := (kseq (b := c4) rfl (fun σ h => n4_eq k G σ h)).trans (n3_eq0 k G σ h)
@[simp] def n1 {R : Type} (k : Nat) (G : KT1 R) (v0 v1 v2 v6 : GV) (h : Heap) : Option R := n3 k (fun x v0 v2 v6 h => kx x (n2 k G v0 v2 h) (G x v6 h)) v0 v1 v2 v6 h
theorem n1_eq {R : Type} (k : Nat) (G : KT1 R) (σ : GS) (h : Heap) : KC k 23 c1 σ h (fun x σ h => G x (σ 6) h) = n1 k G (σ 0) (σ 1) (σ 2) (σ 6) h := (kseq (b := c2) rfl (fun σ h => n2_eq k G σ h)).trans (n3_eq k (fun x v0 v2 v6 h => kx x (n2 k G v0 v2 h) (G x v6 h)) σ h)
noncomputable def c15 : Code := cL c0
@[simp] def n0 {R : Type} (k : Nat) (G : KT1 R) (v0 v1 v2 : GV) (h : Heap) : Option R := n1 k G v0 v1 v2 (.int .i64 0) h
theorem n0_eq0 {R : Type} (k : Nat) (G : KT1 R) (σ : GS) (h : Heap) : KC k 23 c15 σ h (fun x σ h => kx x (n1 k G (σ 0) (σ 1) (σ 2) (σ 6) h) (G x (σ 6) h)) = n0 k G (σ 0) (σ 1) (σ 2) h := by kernel_rfl
theorem n0_eq {R : Type} (k : Nat) (G : KT1 R) (σ : GS) (h : Heap) : KC k 23 c0 σ h (fun x σ h => G x (σ 6) h) = n0 k G (σ 0) (σ 1) (σ 2) h := (kseq (b := c1) rfl (fun σ h => n1_eq k G σ h)).trans (n0_eq0 k G σ h)
def run {R : Type} (k : Nat) (a0 : GV) (a1 : GV) (a2 : GV) (h : Heap) (fin : GV → Heap → Option R) : Option R := n0 k (fun x v6 h => kend x (fin v6 h)) a0 a1 a2 h
theorem run_eq {R : Type} (k : Nat) (a0 : GV) (a1 : GV) (a2 : GV) (h : Heap) (fin : GV → Heap → Option R) : kfun PP cfg NN HH k fn.impl_begun [a0, a1, a2] h fin = run k a0 a1 a2 h fin := (kfun_eq (nt := 23) (c := c0) (show PP.funcs[fn.impl_begun]? = some Tryd.f89 by kernel_rfl) (by kernel_rfl) (by kernel_rfl) (fun x σ h => by cases x <;> kernel_rfl)).trans (n0_eq k (fun x v6 h => kend x (fin v6 h)) _ h)
theorem gives {k : Nat} {a0 : GV} {a1 : GV} {a2 : GV} {v : GV} (e : run k a0 a1 a2 [] finN = some v) : NN fn.impl_begun [a0, a1, a2] = some v := nω_of (by kernel_rfl) ((run_eq k a0 a1 a2 [] finN).trans e)
end S.impl_begun
/-! spec_l14Begin -/
namespace S.spec_l14Begin
noncomputable def c0 : Code := bodyOf Tryd.f94
noncomputable def c1 : Code := cR c0
noncomputable def c2 : Code := cR c1
@[simp] def n2 {R : Type} (k : Nat) (G : KT1 R) (v1 v2 : GV) (h : Heap) : Option R := (kN NN fn.spec_Mix [v2, v1] h).bind fun v22 => G .ret v22 h
theorem n2_eq {R : Type} (k : Nat) (G : KT1 R) (σ : GS) (h : Heap) : KC k 23 c2 σ h (fun x σ h => G x (σ 6) h) = n2 k G (σ 1) (σ 2) h := by kernel_rfl
noncomputable def c3 : Code := cL c1
noncomputable def c4 : Code := cR c3
noncomputable def c5 : Code := cL c4
noncomputable def c6 : Code := cL c5
noncomputable def c7 : Code := cR c6
noncomputable def c8 : Code := cR c7
@[simp] def n8 {R : Type} (k : Nat) (G : KT5 R) (v0 v1 v2 v6 v7 : GV) (h : Heap) : Option R := (kbin .add v7 (.int .i64 1)).bind fun v13 => G .nrm v0 v1 v2 v6 v13 h
theorem n8_eq {R : Type} (k : Nat) (G : KT5 R) (σ : GS) (h : Heap) : KC k 23 c8 σ h (fun x σ h => G x (σ 0) (σ 1) (σ 2) (σ 6) (σ 7) h) = n8 k G (σ 0) (σ 1) (σ 2) (σ 6) (σ 7) h := by kernel_rfl
noncomputable def c9 : Code := cL c7
noncomputable def c10 : Code := cL c9
@[simp] def n10 {R : Type} (k : Nat) (G : KT5 R) (v0 v1 v2 v6 v7 : GV) (h : Heap) : Option R := (kbyte v0 v7).bind fun v17 => (kconvI .i64 v17).bind fun v18 => (kN NN fn.spec_Mix [v2, v18] h).bind fun v19 => G .nrm v0 v1 v19 v6 v7 h
theorem n10_eq {R : Type} (k : Nat) (G : KT5 R) (σ : GS) (h : Heap) : KC k 23 c10 σ h (fun x σ h => G x (σ 0) (σ 1) (σ 2) (σ 6) (σ 7) h) = n10 k G (σ 0) (σ 1) (σ 2) (σ 6) (σ 7) h := by kernel_rfl
@[simp] def n9 {R : Type} (k : Nat) (G : KT5 R) (v0 v1 v2 v6 v7 : GV) (h : Heap) : Option R := n10 k (fun x v0 v1 v2 v6 v7 h => kb 1 x fun x => G x v0 v1 v2 v6 v7 h) v0 v1 v2 v6 v7 h
theorem n9_eq {R : Type} (k : Nat) (G : KT5 R) (σ : GS) (h : Heap) : KC k 23 c9 σ h (fun x σ h => G x (σ 0) (σ 1) (σ 2) (σ 6) (σ 7) h) = n9 k G (σ 0) (σ 1) (σ 2) (σ 6) (σ 7) h := (kblock_eq (a := c10) rfl).trans (n10_eq k (fun x v0 v1 v2 v6 v7 h => kb 1 x fun x => G x v0 v1 v2 v6 v7 h) σ h)
@[simp] def n7 {R : Type} (k : Nat) (G : KT5 R) (v0 v1 v2 v6 v7 : GV) (h : Heap) : Option R := n9 k (fun x v0 v1 v2 v6 v7 h => kx x (n8 k G v0 v1 v2 v6 v7 h) (G x v0 v1 v2 v6 v7 h)) v0 v1 v2 v6 v7 h
theorem n7_eq {R : Type} (k : Nat) (G : KT5 R) (σ : GS) (h : Heap) : KC k 23 c7 σ h (fun x σ h => G x (σ 0) (σ 1) (σ 2) (σ 6) (σ 7) h) = n7 k G (σ 0) (σ 1) (σ 2) (σ 6) (σ 7) h := (kseq (b := c8) rfl (fun σ h => n8_eq k G σ h)).trans (n9_eq k (fun x v0 v1 v2 v6 v7 h => kx x (n8 k G v0 v1 v2 v6 v7 h) (G x v0 v1 v2 v6 v7 h)) σ h)
noncomputable def c11 : Code := cL c6
@[simp] def n6 {R : Type} (k : Nat) (G : KT5 R) (v0 v1 v2 v6 v7 : GV) (h : Heap) : Option R := (klenS v0).bind fun v10 => (kbin .lss v7 v10).bind fun v11 => kcond v11 (n7 k G v0 v1 v2 v6 v7 h) (G (.ext 0) v0 v1 v2 v6 v7 h)
theorem n6_eq0 {R : Type} (k : Nat) (G : KT5 R) (σ : GS) (h : Heap) : KC k 23 c11 σ h (fun x σ h => kx x (n7 k G (σ 0) (σ 1) (σ 2) (σ 6) (σ 7) h) (G x (σ 0) (σ 1) (σ 2) (σ 6) (σ 7) h)) = n6 k G (σ 0) (σ 1) (σ 2) (σ 6) (σ 7) h := by kernel_rfl
theorem n6_eq {R : Type} (k : Nat) (G : KT5 R) (σ : GS) (h : Heap) : KC k 23 c6 σ h (fun x σ h => G x (σ 0) (σ 1) (σ 2) (σ 6) (σ 7) h) = n6 k G (σ 0) (σ 1) (σ 2) (σ 6) (σ 7) h := (kseq (b := c7) rfl (fun σ h => n7_eq k G σ h)).trans (n6_eq0 k G σ h)
def l5 {R : Type} (k : Nat) (G : KT3 R) : Nat → GV → GV → GV → GV → GV → Heap → Option R
  | 0, _, _, _, _, _, _ => none
  | r + 1, v0, v1, v2, v6, v7, h => n6 k (fun x v0 v1 v2 v6 v7 h => kx x (l5 k G r v0 v1 v2 v6 v7 h) (G x v1 v2 v6 h)) v0 v1 v2 v6 v7 h
theorem l5_eq {R : Type} (k : Nat) (G : KT3 R) : ∀ (r : Nat) (σ : GS) (h : Heap), kloop (fun σ h K => KC k 23 c6 σ h K) r σ h (fun x σ h => G x (σ 1) (σ 2) (σ 6) h) = l5 k G r (σ 0) (σ 1) (σ 2) (σ 6) (σ 7) h
  | 0, _, _ => rfl
  | r + 1, σ, h => (kloop_eq (fun σ h => l5_eq k G r σ h)).trans (n6_eq k (fun x v0 v1 v2 v6 v7 h => kx x (l5 k G r v0 v1 v2 v6 v7 h) (G x v1 v2 v6 h)) σ h)
@[simp] def n5 {R : Type} (k : Nat) (G : KT3 R) (v0 v1 v2 v6 v7 : GV) (h : Heap) : Option R := l5 k G k v0 v1 v2 v6 v7 h
theorem n5_eq {R : Type} (k : Nat) (G : KT3 R) (σ : GS) (h : Heap) : KC k 23 c5 σ h (fun x σ h => G x (σ 1) (σ 2) (σ 6) h) = n5 k G (σ 0) (σ 1) (σ 2) (σ 6) (σ 7) h := (kloopc_eq (a := c6) rfl).trans (l5_eq k G k σ h)
@[simp] def n4 {R : Type} (k : Nat) (G : KT3 R) (v0 v1 v2 v6 v7 : GV) (h : Heap) : Option R := n5 k (fun x v1 v2 v6 h => kb 0 x fun x => G x v1 v2 v6 h) v0 v1 v2 v6 v7 h
theorem n4_eq {R : Type} (k : Nat) (G : KT3 R) (σ : GS) (h : Heap) : KC k 23 c4 σ h (fun x σ h => G x (σ 1) (σ 2) (σ 6) h) = n4 k G (σ 0) (σ 1) (σ 2) (σ 6) (σ 7) h := (kblock_eq (a := c5) rfl).trans (n5_eq k (fun x v1 v2 v6 h => kb 0 x fun x => G x v1 v2 v6 h) σ h)
noncomputable def c12 : Code := cL c3
@[simp] def n3 {R : Type} (k : Nat) (G : KT3 R) (v0 v1 v2 v6 : GV) (h : Heap) : Option R := n4 k G v0 v1 v2 v6 (.int .i64 0) h
theorem n3_eq0 {R : Type} (k : Nat) (G : KT3 R) (σ : GS) (h : Heap) : KC k 23 c12 σ h (fun x σ h => kx x (n4 k G (σ 0) (σ 1) (σ 2) (σ 6) (σ 7) h) (G x (σ 1) (σ 2) (σ 6) h)) = n3 k G (σ 0) (σ 1) (σ 2) (σ 6) h := by kernel_rfl
theorem n3_eq {R : Type} (k : Nat) (G : KT3 R) (σ : GS) (h : Heap) : KC k 23 c3 σ h (fun x σ h => G x (σ 1) (σ 2) (σ 6) h) = n3 k G (σ 0) (σ 1) (σ 2) (σ 6) h := (kseq (b := c4) rfl (fun σ h => n4_eq k G σ h)).trans (n3_eq0 k G σ h)
@[simp] def n1 {R : Type} (k : Nat) (G : KT1 R) (v0 v1 v2 v6 : GV) (h : Heap) : Option R := n3 k (fun x v1 v2 v6 h => kx x (n2 k G v1 v2 h) (G x v6 h)) v0 v1 v2 v6 h
theorem n1_eq {R : Type} (k : Nat) (G : KT1 R) (σ : GS) (h : Heap) : KC k 23 c1 σ h (fun x σ h => G x (σ 6) h) = n1 k G (σ 0) (σ 1) (σ 2) (σ 6) h := (kseq (b := c2) rfl (fun σ h => n2_eq k G σ h)).trans (n3_eq k (fun x v1 v2 v6 h => kx x (n2 k G v1 v2 h) (G x v6 h)) σ h)
noncomputable def c13 : Code := cL c0
@[simp] def n0 {R : Type} (k : Nat) (G : KT1 R) (v0 v1 v2 : GV) (h : Heap) : Option R := n1 k G v0 v1 v2 (.int .i64 0) h
theorem n0_eq0 {R : Type} (k : Nat) (G : KT1 R) (σ : GS) (h : Heap) : KC k 23 c13 σ h (fun x σ h => kx x (n1 k G (σ 0) (σ 1) (σ 2) (σ 6) h) (G x (σ 6) h)) = n0 k G (σ 0) (σ 1) (σ 2) h := by kernel_rfl
theorem n0_eq {R : Type} (k : Nat) (G : KT1 R) (σ : GS) (h : Heap) : KC k 23 c0 σ h (fun x σ h => G x (σ 6) h) = n0 k G (σ 0) (σ 1) (σ 2) h := (kseq (b := c1) rfl (fun σ h => n1_eq k G σ h)).trans (n0_eq0 k G σ h)
def run {R : Type} (k : Nat) (a0 : GV) (a1 : GV) (a2 : GV) (h : Heap) (fin : GV → Heap → Option R) : Option R := n0 k (fun x v6 h => kend x (fin v6 h)) a0 a1 a2 h
theorem run_eq {R : Type} (k : Nat) (a0 : GV) (a1 : GV) (a2 : GV) (h : Heap) (fin : GV → Heap → Option R) : kfun PP cfg NN HH k fn.spec_l14Begin [a0, a1, a2] h fin = run k a0 a1 a2 h fin := (kfun_eq (nt := 23) (c := c0) (show PP.funcs[fn.spec_l14Begin]? = some Tryd.f94 by kernel_rfl) (by kernel_rfl) (by kernel_rfl) (fun x σ h => by cases x <;> kernel_rfl)).trans (n0_eq k (fun x v6 h => kend x (fin v6 h)) _ h)
theorem gives {k : Nat} {a0 : GV} {a1 : GV} {a2 : GV} {v : GV} (e : run k a0 a1 a2 [] finN = some v) : NN fn.spec_l14Begin [a0, a1, a2] = some v := nω_of (by kernel_rfl) ((run_eq k a0 a1 a2 [] finN).trans e)
end S.spec_l14Begin
/-! spec_l1Max -/
namespace S.spec_l1Max
noncomputable def c0 : Code := bodyOf Tryd.f95
@[simp] def n0 {R : Type} (k : Nat) (G : KT1 R) (v0 v1 : GV) (h : Heap) : Option R := (kbin .gtr v0 v1).bind fun v7 => kcond v7 (G .ret v0 h) (G .ret v1 h)
theorem n0_eq {R : Type} (k : Nat) (G : KT1 R) (σ : GS) (h : Heap) : KC k 10 c0 σ h (fun x σ h => G x (σ 4) h) = n0 k G (σ 0) (σ 1) h := by kernel_rfl
def run {R : Type} (k : Nat) (a0 : GV) (a1 : GV) (h : Heap) (fin : GV → Heap → Option R) : Option R := n0 k (fun x v4 h => kend x (fin v4 h)) a0 a1 h
theorem run_eq {R : Type} (k : Nat) (a0 : GV) (a1 : GV) (h : Heap) (fin : GV → Heap → Option R) : kfun PP cfg NN HH k fn.spec_l1Max [a0, a1] h fin = run k a0 a1 h fin := (kfun_eq (nt := 10) (c := c0) (show PP.funcs[fn.spec_l1Max]? = some Tryd.f95 by kernel_rfl) (by kernel_rfl) (by kernel_rfl) (fun x σ h => by cases x <;> kernel_rfl)).trans (n0_eq k (fun x v4 h => kend x (fin v4 h)) _ h)
theorem gives {k : Nat} {a0 : GV} {a1 : GV} {v : GV} (e : run k a0 a1 [] finN = some v) : NN fn.spec_l1Max [a0, a1] = some v := nω_of (by kernel_rfl) ((run_eq k a0 a1 [] finN).trans e)
end S.spec_l1Max
/-! spec_l1In -/
namespace S.spec_l1In
noncomputable def c0 : Code := bodyOf Tryd.f96
noncomputable def c1 : Code := cR c0
noncomputable def c2 : Code := cR c1
@[simp] def n2 {R : Type} (k : Nat) (G : KT1 R) (v6 : GV) (h : Heap) : Option R := G .ret v6 h
theorem n2_eq {R : Type} (k : Nat) (G : KT1 R) (σ : GS) (h : Heap) : KC k 15 c2 σ h (fun x σ h => G x (σ 6) h) = n2 k G (σ 6) h := by kernel_rfl
noncomputable def c3 : Code := cL c1
noncomputable def o3 : Array Oper := cO c3
@[simp] def g3_2 {R : Type} (k : Nat) (G : KT1 R) (v10 v13 : GV) (h : Heap) : Option R := (kpick v10 v13 (.bool false)).bind fun v14 => G .nrm v14 h
theorem g3_2_eq {R : Type} (k : Nat) (G : KT1 R) (σ : GS) (h : Heap) : kgroups PP cfg NN HH 15 o3 [(none, [7, 8])] σ h (fun σ h => G .nrm (σ 6) h) = g3_2 k G (σ 10) (σ 13) h := by kernel_rfl
@[simp] def g3_1 {R : Type} (k : Nat) (G : KT1 R) (v0 v2 v10 : GV) (h : Heap) : Option R := bif tr true v10 then (kbin .leq v0 v2).bind fun v13 => g3_2 k G v10 v13 h else g3_2 k G v10 .un h
theorem g3_1_eq0 {R : Type} (k : Nat) (G : KT1 R) (σ : GS) (h : Heap) : kgroup1 PP cfg NN HH 15 o3 (some (3, true), [4, 5, 6]) σ h (fun σ h => g3_2 k G (σ 10) (σ 13) h) = g3_1 k G (σ 0) (σ 2) (σ 10) h := by kernel_rfl
theorem g3_1_eq {R : Type} (k : Nat) (G : KT1 R) (σ : GS) (h : Heap) : kgroups PP cfg NN HH 15 o3 [(some (3, true), [4, 5, 6]), (none, [7, 8])] σ h (fun σ h => G .nrm (σ 6) h) = g3_1 k G (σ 0) (σ 2) (σ 10) h := (kgroups_cons (fun σ h => g3_2_eq k G σ h)).trans (g3_1_eq0 k G σ h)
@[simp] def g3_0 {R : Type} (k : Nat) (G : KT1 R) (v0 v1 v2 : GV) (h : Heap) : Option R := (kbin .geq v0 v1).bind fun v9 => g3_1 k G v0 v2 v9 h
theorem g3_0_eq0 {R : Type} (k : Nat) (G : KT1 R) (σ : GS) (h : Heap) : kgroup1 PP cfg NN HH 15 o3 (none, [0, 1, 2, 3]) σ h (fun σ h => g3_1 k G (σ 0) (σ 2) (σ 10) h) = g3_0 k G (σ 0) (σ 1) (σ 2) h := by kernel_rfl
theorem g3_0_eq {R : Type} (k : Nat) (G : KT1 R) (σ : GS) (h : Heap) : kgroups PP cfg NN HH 15 o3 [(none, [0, 1, 2, 3]), (some (3, true), [4, 5, 6]), (none, [7, 8])] σ h (fun σ h => G .nrm (σ 6) h) = g3_0 k G (σ 0) (σ 1) (σ 2) h := (kgroups_cons (fun σ h => g3_1_eq k G σ h)).trans (g3_0_eq0 k G σ h)
@[simp] def n3 {R : Type} (k : Nat) (G : KT1 R) (v0 v1 v2 : GV) (h : Heap) : Option R := g3_0 k G v0 v1 v2 h
theorem n3_eq {R : Type} (k : Nat) (G : KT1 R) (σ : GS) (h : Heap) : KC k 15 c3 σ h (fun x σ h => G x (σ 6) h) = n3 k G (σ 0) (σ 1) (σ 2) h := (kregion_eq (id := 1) (draw := false) (ops := o3) (gs := [(none, [0, 1, 2, 3]), (some (3, true), [4, 5, 6]), (none, [7, 8])]) (by kernel_rfl) (by kernel_rfl) (by kernel_rfl)).trans (g3_0_eq k G σ h)
@[simp] def n1 {R : Type} (k : Nat) (G : KT1 R) (v0 v1 v2 : GV) (h : Heap) : Option R := n3 k (fun x v6 h => kx x (n2 k G v6 h) (G x v6 h)) v0 v1 v2 h
theorem n1_eq {R : Type} (k : Nat) (G : KT1 R) (σ : GS) (h : Heap) : KC k 15 c1 σ h (fun x σ h => G x (σ 6) h) = n1 k G (σ 0) (σ 1) (σ 2) h := (kseq (b := c2) rfl (fun σ h => n2_eq k G σ h)).trans (n3_eq k (fun x v6 h => kx x (n2 k G v6 h) (G x v6 h)) σ h)
noncomputable def c4 : Code := cL c0
@[simp] def n0 {R : Type} (k : Nat) (G : KT1 R) (v0 v1 v2 : GV) (h : Heap) : Option R := n1 k G v0 v1 v2 h
theorem n0_eq0 {R : Type} (k : Nat) (G : KT1 R) (σ : GS) (h : Heap) : KC k 15 c4 σ h (fun x σ h => kx x (n1 k G (σ 0) (σ 1) (σ 2) h) (G x (σ 6) h)) = n0 k G (σ 0) (σ 1) (σ 2) h := by kernel_rfl
theorem n0_eq {R : Type} (k : Nat) (G : KT1 R) (σ : GS) (h : Heap) : KC k 15 c0 σ h (fun x σ h => G x (σ 6) h) = n0 k G (σ 0) (σ 1) (σ 2) h := (kseq (b := c1) rfl (fun σ h => n1_eq k G σ h)).trans (n0_eq0 k G σ h)
def run {R : Type} (k : Nat) (a0 : GV) (a1 : GV) (a2 : GV) (h : Heap) (fin : GV → Heap → Option R) : Option R := n0 k (fun x v6 h => kend x (fin v6 h)) a0 a1 a2 h
theorem run_eq {R : Type} (k : Nat) (a0 : GV) (a1 : GV) (a2 : GV) (h : Heap) (fin : GV → Heap → Option R) : kfun PP cfg NN HH k fn.spec_l1In [a0, a1, a2] h fin = run k a0 a1 a2 h fin := (kfun_eq (nt := 15) (c := c0) (show PP.funcs[fn.spec_l1In]? = some Tryd.f96 by kernel_rfl) (by kernel_rfl) (by kernel_rfl) (fun x σ h => by cases x <;> kernel_rfl)).trans (n0_eq k (fun x v6 h => kend x (fin v6 h)) _ h)
theorem gives {k : Nat} {a0 : GV} {a1 : GV} {a2 : GV} {v : GV} (e : run k a0 a1 a2 [] finN = some v) : NN fn.spec_l1In [a0, a1, a2] = some v := nω_of (by kernel_rfl) ((run_eq k a0 a1 a2 [] finN).trans e)
end S.spec_l1In
/-! impl_in -/
namespace S.impl_in
noncomputable def c0 : Code := bodyOf Tryd.f104
noncomputable def c1 : Code := cR c0
noncomputable def c2 : Code := cR c1
@[simp] def n2 {R : Type} (k : Nat) (G : KT1 R) (v6 : GV) (h : Heap) : Option R := G .ret v6 h
theorem n2_eq {R : Type} (k : Nat) (G : KT1 R) (σ : GS) (h : Heap) : KC k 15 c2 σ h (fun x σ h => G x (σ 6) h) = n2 k G (σ 6) h := by kernel_rfl
noncomputable def c3 : Code := cL c1
noncomputable def o3 : Array Oper := cO c3
@[simp] def g3_2 {R : Type} (k : Nat) (G : KT1 R) (v10 v13 : GV) (h : Heap) : Option R := (kpick v10 v13 (.bool false)).bind fun v14 => G .nrm v14 h
theorem g3_2_eq {R : Type} (k : Nat) (G : KT1 R) (σ : GS) (h : Heap) : kgroups PP cfg NN HH 15 o3 [(none, [7, 8])] σ h (fun σ h => G .nrm (σ 6) h) = g3_2 k G (σ 10) (σ 13) h := by kernel_rfl
@[simp] def g3_1 {R : Type} (k : Nat) (G : KT1 R) (v0 v2 v10 : GV) (h : Heap) : Option R := bif tr true v10 then (kbin .leq v0 v2).bind fun v13 => g3_2 k G v10 v13 h else g3_2 k G v10 .un h
theorem g3_1_eq0 {R : Type} (k : Nat) (G : KT1 R) (σ : GS) (h : Heap) : kgroup1 PP cfg NN HH 15 o3 (some (3, true), [4, 5, 6]) σ h (fun σ h => g3_2 k G (σ 10) (σ 13) h) = g3_1 k G (σ 0) (σ 2) (σ 10) h := by kernel_rfl
theorem g3_1_eq {R : Type} (k : Nat) (G : KT1 R) (σ : GS) (h : Heap) : kgroups PP cfg NN HH 15 o3 [(some (3, true), [4, 5, 6]), (none, [7, 8])] σ h (fun σ h => G .nrm (σ 6) h) = g3_1 k G (σ 0) (σ 2) (σ 10) h := (kgroups_cons (fun σ h => g3_2_eq k G σ h)).trans (g3_1_eq0 k G σ h)
@[simp] def g3_0 {R : Type} (k : Nat) (G : KT1 R) (v0 v1 v2 : GV) (h : Heap) : Option R := (kbin .leq v1 v0).bind fun v9 => g3_1 k G v0 v2 v9 h
theorem g3_0_eq0 {R : Type} (k : Nat) (G : KT1 R) (σ : GS) (h : Heap) : kgroup1 PP cfg NN HH 15 o3 (none, [0, 1, 2, 3]) σ h (fun σ h => g3_1 k G (σ 0) (σ 2) (σ 10) h) = g3_0 k G (σ 0) (σ 1) (σ 2) h := by kernel_rfl
theorem g3_0_eq {R : Type} (k : Nat) (G : KT1 R) (σ : GS) (h : Heap) : kgroups PP cfg NN HH 15 o3 [(none, [0, 1, 2, 3]), (some (3, true), [4, 5, 6]), (none, [7, 8])] σ h (fun σ h => G .nrm (σ 6) h) = g3_0 k G (σ 0) (σ 1) (σ 2) h := (kgroups_cons (fun σ h => g3_1_eq k G σ h)).trans (g3_0_eq0 k G σ h)
@[simp] def n3 {R : Type} (k : Nat) (G : KT1 R) (v0 v1 v2 : GV) (h : Heap) : Option R := g3_0 k G v0 v1 v2 h
theorem n3_eq {R : Type} (k : Nat) (G : KT1 R) (σ : GS) (h : Heap) : KC k 15 c3 σ h (fun x σ h => G x (σ 6) h) = n3 k G (σ 0) (σ 1) (σ 2) h := (kregion_eq (id := 1) (draw := false) (ops := o3) (gs := [(none, [0, 1, 2, 3]), (some (3, true), [4, 5, 6]), (none, [7, 8])]) (by kernel_rfl) (by kernel_rfl) (by kernel_rfl)).trans (g3_0_eq k G σ h)
@[simp] def n1 {R : Type} (k : Nat) (G : KT1 R) (v0 v1 v2 : GV) (h : Heap) : Option R := n3 k (fun x v6 h => kx x (n2 k G v6 h) (G x v6 h)) v0 v1 v2 h
theorem n1_eq {R : Type} (k : Nat) (G : KT1 R) (σ : GS) (h : Heap) : KC k 15 c1 σ h (fun x σ h => G x (σ 6) h) = n1 k G (σ 0) (σ 1) (σ 2) h := (kseq (b := c2) rfl (fun σ h => n2_eq k G σ h)).trans (n3_eq k (fun x v6 h => kx x (n2 k G v6 h) (G x v6 h)) σ h)
noncomputable def c4 : Code := cL c0
@[simp] def n0 {R : Type} (k : Nat) (G : KT1 R) (v0 v1 v2 : GV) (h : Heap) : Option R := n1 k G v0 v1 v2 h
theorem n0_eq0 {R : Type} (k : Nat) (G : KT1 R) (σ : GS) (h : Heap) : KC k 15 c4 σ h (fun x σ h => kx x (n1 k G (σ 0) (σ 1) (σ 2) h) (G x (σ 6) h)) = n0 k G (σ 0) (σ 1) (σ 2) h := by kernel_rfl
theorem n0_eq {R : Type} (k : Nat) (G : KT1 R) (σ : GS) (h : Heap) : KC k 15 c0 σ h (fun x σ h => G x (σ 6) h) = n0 k G (σ 0) (σ 1) (σ 2) h := (kseq (b := c1) rfl (fun σ h => n1_eq k G σ h)).trans (n0_eq0 k G σ h)
def run {R : Type} (k : Nat) (a0 : GV) (a1 : GV) (a2 : GV) (h : Heap) (fin : GV → Heap → Option R) : Option R := n0 k (fun x v6 h => kend x (fin v6 h)) a0 a1 a2 h
theorem run_eq {R : Type} (k : Nat) (a0 : GV) (a1 : GV) (a2 : GV) (h : Heap) (fin : GV → Heap → Option R) : kfun PP cfg NN HH k fn.impl_in [a0, a1, a2] h fin = run k a0 a1 a2 h fin := (kfun_eq (nt := 15) (c := c0) (show PP.funcs[fn.impl_in]? = some Tryd.f104 by kernel_rfl) (by kernel_rfl) (by kernel_rfl) (fun x σ h => by cases x <;> kernel_rfl)).trans (n0_eq k (fun x v6 h => kend x (fin v6 h)) _ h)
theorem gives {k : Nat} {a0 : GV} {a1 : GV} {a2 : GV} {v : GV} (e : run k a0 a1 a2 [] finN = some v) : NN fn.impl_in [a0, a1, a2] = some v := nω_of (by kernel_rfl) ((run_eq k a0 a1 a2 [] finN).trans e)
end S.impl_in
end
end Go.Proofs.YtklhdbkaejbajaaDoor.G
