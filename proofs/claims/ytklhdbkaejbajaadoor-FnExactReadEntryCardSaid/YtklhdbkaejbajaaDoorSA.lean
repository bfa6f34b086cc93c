/- What these functions do, told for open values, out of the machine with continuations. Printed by a program of this session. -/
import Derived.Test.YtklhdbkaejbajaaDoorCfg
import Derived.KernelRfl
namespace Go.Proofs.YtklhdbkaejbajaaDoor.G
open Go.RowKit
set_option linter.unusedVariables false
set_option maxRecDepth 100000
abbrev KT0 (R : Type) : Type := GX → Heap → Option R
abbrev KT1 (R : Type) : Type := GX → GV → Heap → Option R
abbrev KT2 (R : Type) : Type := GX → GV → GV → Heap → Option R
abbrev KT3 (R : Type) : Type := GX → GV → GV → GV → Heap → Option R
abbrev KT4 (R : Type) : Type := GX → GV → GV → GV → GV → Heap → Option R
abbrev KT5 (R : Type) : Type := GX → GV → GV → GV → GV → GV → Heap → Option R
abbrev KT6 (R : Type) : Type := GX → GV → GV → GV → GV → GV → GV → Heap → Option R
abbrev KT7 (R : Type) : Type := GX → GV → GV → GV → GV → GV → GV → GV → Heap → Option R
abbrev KT8 (R : Type) : Type := GX → GV → GV → GV → GV → GV → GV → GV → GV → Heap → Option R
abbrev KT9 (R : Type) : Type := GX → GV → GV → GV → GV → GV → GV → GV → GV → GV → Heap → Option R
abbrev KT10 (R : Type) : Type := GX → GV → GV → GV → GV → GV → GV → GV → GV → GV → GV → Heap → Option R
abbrev KT11 (R : Type) : Type := GX → GV → GV → GV → GV → GV → GV → GV → GV → GV → GV → GV → Heap → Option R
abbrev KT12 (R : Type) : Type := GX → GV → GV → GV → GV → GV → GV → GV → GV → GV → GV → GV → GV → Heap → Option R
abbrev KT13 (R : Type) : Type := GX → GV → GV → GV → GV → GV → GV → GV → GV → GV → GV → GV → GV → GV → Heap → Option R
abbrev KT14 (R : Type) : Type := GX → GV → GV → GV → GV → GV → GV → GV → GV → GV → GV → GV → GV → GV → GV → Heap → Option R
abbrev KT15 (R : Type) : Type := GX → GV → GV → GV → GV → GV → GV → GV → GV → GV → GV → GV → GV → GV → GV → GV → Heap → Option R
abbrev KT16 (R : Type) : Type := GX → GV → GV → GV → GV → GV → GV → GV → GV → GV → GV → GV → GV → GV → GV → GV → GV → Heap → Option R
abbrev KT17 (R : Type) : Type := GX → GV → GV → GV → GV → GV → GV → GV → GV → GV → GV → GV → GV → GV → GV → GV → GV → GV → Heap → Option R
abbrev KT18 (R : Type) : Type := GX → GV → GV → GV → GV → GV → GV → GV → GV → GV → GV → GV → GV → GV → GV → GV → GV → GV → GV → Heap → Option R
abbrev KT19 (R : Type) : Type := GX → GV → GV → GV → GV → GV → GV → GV → GV → GV → GV → GV → GV → GV → GV → GV → GV → GV → GV → GV → Heap → Option R
abbrev KT20 (R : Type) : Type := GX → GV → GV → GV → GV → GV → GV → GV → GV → GV → GV → GV → GV → GV → GV → GV → GV → GV → GV → GV → GV → Heap → Option R
abbrev KT21 (R : Type) : Type := GX → GV → GV → GV → GV → GV → GV → GV → GV → GV → GV → GV → GV → GV → GV → GV → GV → GV → GV → GV → GV → GV → Heap → Option R
abbrev KT22 (R : Type) : Type := GX → GV → GV → GV → GV → GV → GV → GV → GV → GV → GV → GV → GV → GV → GV → GV → GV → GV → GV → GV → GV → GV → GV → Heap → Option R
abbrev KT23 (R : Type) : Type := GX → GV → GV → GV → GV → GV → GV → GV → GV → GV → GV → GV → GV → GV → GV → GV → GV → GV → GV → GV → GV → GV → GV → GV → Heap → Option R
abbrev KT24 (R : Type) : Type := GX → GV → GV → GV → GV → GV → GV → GV → GV → GV → GV → GV → GV → GV → GV → GV → GV → GV → GV → GV → GV → GV → GV → GV → GV → Heap → Option R
abbrev KT25 (R : Type) : Type := GX → GV → GV → GV → GV → GV → GV → GV → GV → GV → GV → GV → GV → GV → GV → GV → GV → GV → GV → GV → GV → GV → GV → GV → GV → GV → Heap → Option R
abbrev KT26 (R : Type) : Type := GX → GV → GV → GV → GV → GV → GV → GV → GV → GV → GV → GV → GV → GV → GV → GV → GV → GV → GV → GV → GV → GV → GV → GV → GV → GV → GV → Heap → Option R
abbrev KT27 (R : Type) : Type := GX → GV → GV → GV → GV → GV → GV → GV → GV → GV → GV → GV → GV → GV → GV → GV → GV → GV → GV → GV → GV → GV → GV → GV → GV → GV → GV → GV → Heap → Option R
abbrev KT28 (R : Type) : Type := GX → GV → GV → GV → GV → GV → GV → GV → GV → GV → GV → GV → GV → GV → GV → GV → GV → GV → GV → GV → GV → GV → GV → GV → GV → GV → GV → GV → GV → Heap → Option R
abbrev KT29 (R : Type) : Type := GX → GV → GV → GV → GV → GV → GV → GV → GV → GV → GV → GV → GV → GV → GV → GV → GV → GV → GV → GV → GV → GV → GV → GV → GV → GV → GV → GV → GV → GV → Heap → Option R
abbrev KT30 (R : Type) : Type := GX → GV → GV → GV → GV → GV → GV → GV → GV → GV → GV → GV → GV → GV → GV → GV → GV → GV → GV → GV → GV → GV → GV → GV → GV → GV → GV → GV → GV → GV → GV → Heap → Option R
noncomputable section
/-! spec_Record -/
namespace S.spec_Record
noncomputable def c0 : Code := bodyOf Tryd.f14
@[simp] def n0 {R : Type} (k : Nat) (G : KT1 R) (v0 : GV) (h : Heap) : Option R := (klenS v0).bind fun v4 => (kbin .gtr v4 (.int .i64 5000)).bind fun v5 => kcond v5 (G .ret (.str { data := #[] }) h) ((klenS v0).bind fun v7 => (kN NN fn.spec_l3Int [v7] h).bind fun v8 => (kbin .add v8 (.str { data := #[32] })).bind fun v9 => (kN NN fn.spec_Sum [v0] h).bind fun v11 => (kN NN fn.spec_l3Int [v11] h).bind fun v12 => (kbin .add v9 v12).bind fun v13 => (kbin .add v13 (.str { data := #[10] })).bind fun v14 => (kbin .add v14 v0).bind fun v16 => (kbin .add v16 (.str { data := #[10] })).bind fun v17 => G .ret v17 h)
theorem n0_eq {R : Type} (k : Nat) (G : KT1 R) (σ : GS) (h : Heap) : KC k 18 c0 σ h (fun x σ h => G x (σ 2) h) = n0 k G (σ 0) h := by kernel_rfl
def run {R : Type} (k : Nat) (a0 : GV) (h : Heap) (fin : GV → Heap → Option R) : Option R := n0 k (fun x v2 h => kend x (fin v2 h)) a0 h
theorem run_eq {R : Type} (k : Nat) (a0 : GV) (h : Heap) (fin : GV → Heap → Option R) : kfun PP cfg NN HH k fn.spec_Record [a0] h fin = run k a0 h fin := (kfun_eq (nt := 18) (c := c0) (show PP.funcs[fn.spec_Record]? = some Tryd.f14 by kernel_rfl) (by kernel_rfl) (by kernel_rfl) (fun x σ h => by cases x <;> kernel_rfl)).trans (n0_eq k (fun x v2 h => kend x (fin v2 h)) _ h)
theorem gives {k : Nat} {a0 : GV} {v : GV} (e : run k a0 [] finN = some v) : NN fn.spec_Record [a0] = some v := nω_of (by kernel_rfl) ((run_eq k a0 [] finN).trans e)
end S.spec_Record
/-! impl_Record -/
namespace S.impl_Record
noncomputable def c0 : Code := bodyOf Tryd.f15
@[simp] def n0 {R : Type} (k : Nat) (G : KT1 R) (v0 : GV) (h : Heap) : Option R := (klenS v0).bind fun v4 => (kbin .gtr v4 (.int .i64 5000)).bind fun v5 => kcond v5 (G .ret (.str { data := #[] }) h) ((klenS v0).bind fun v7 => (kN NN fn.impl_decimal [v7] h).bind fun v8 => (kbin .add v8 (.str { data := #[32] })).bind fun v9 => (kN NN fn.impl_Sum [v0] h).bind fun v11 => (kN NN fn.impl_decimal [v11] h).bind fun v12 => (kbin .add v9 v12).bind fun v13 => (kbin .add v13 (.str { data := #[10] })).bind fun v14 => (kbin .add v14 v0).bind fun v16 => (kbin .add v16 (.str { data := #[10] })).bind fun v17 => G .ret v17 h)
theorem n0_eq {R : Type} (k : Nat) (G : KT1 R) (σ : GS) (h : Heap) : KC k 18 c0 σ h (fun x σ h => G x (σ 2) h) = n0 k G (σ 0) h := by kernel_rfl
def run {R : Type} (k : Nat) (a0 : GV) (h : Heap) (fin : GV → Heap → Option R) : Option R := n0 k (fun x v2 h => kend x (fin v2 h)) a0 h
theorem run_eq {R : Type} (k : Nat) (a0 : GV) (h : Heap) (fin : GV → Heap → Option R) : kfun PP cfg NN HH k fn.impl_Record [a0] h fin = run k a0 h fin := (kfun_eq (nt := 18) (c := c0) (show PP.funcs[fn.impl_Record]? = some Tryd.f15 by kernel_rfl) (by kernel_rfl) (by kernel_rfl) (fun x σ h => by cases x <;> kernel_rfl)).trans (n0_eq k (fun x v2 h => kend x (fin v2 h)) _ h)
theorem gives {k : Nat} {a0 : GV} {v : GV} (e : run k a0 [] finN = some v) : NN fn.impl_Record [a0] = some v := nω_of (by kernel_rfl) ((run_eq k a0 [] finN).trans e)
end S.impl_Record
/-! spec_Sealed -/
namespace S.spec_Sealed
noncomputable def c0 : Code := bodyOf Tryd.f16
@[simp] def n0 {R : Type} (k : Nat) (G : KT1 R) (v0 v1 v2 : GV) (h : Heap) : Option R := (klenS v2).bind fun v10 => (kN NN fn.spec_l14Told [v0, v1, v10] h).bind fun v11 => (kun .not v11).bind fun v12 => kcond v12 (G .ret (.str { data := #[] }) h) ((kN NN fn.spec_l3Int [v1] h).bind fun v14 => (kbin .add v14 (.str { data := #[32] })).bind fun v15 => (kN NN fn.spec_Mark [v0, v1, v2] h).bind fun v19 => (kN NN fn.spec_l3Int [v19] h).bind fun v20 => (kbin .add v15 v20).bind fun v21 => (kbin .add v21 (.str { data := #[32] })).bind fun v22 => (klenS v2).bind fun v27 => (kN NN fn.spec_Stream [v0, v1, v27] h).bind fun v28 => (kN NN fn.spec_l14Xor [v2, v28] h).bind fun v29 => (kbin .add v22 v29).bind fun v30 => G .ret v30 h)
theorem n0_eq {R : Type} (k : Nat) (G : KT1 R) (σ : GS) (h : Heap) : KC k 31 c0 σ h (fun x σ h => G x (σ 6) h) = n0 k G (σ 0) (σ 1) (σ 2) h := by kernel_rfl
def run {R : Type} (k : Nat) (a0 : GV) (a1 : GV) (a2 : GV) (h : Heap) (fin : GV → Heap → Option R) : Option R := n0 k (fun x v6 h => kend x (fin v6 h)) a0 a1 a2 h
theorem run_eq {R : Type} (k : Nat) (a0 : GV) (a1 : GV) (a2 : GV) (h : Heap) (fin : GV → Heap → Option R) : kfun PP cfg NN HH k fn.spec_Sealed [a0, a1, a2] h fin = run k a0 a1 a2 h fin := (kfun_eq (nt := 31) (c := c0) (show PP.funcs[fn.spec_Sealed]? = some Tryd.f16 by kernel_rfl) (by kernel_rfl) (by kernel_rfl) (fun x σ h => by cases x <;> kernel_rfl)).trans (n0_eq k (fun x v6 h => kend x (fin v6 h)) _ h)
theorem gives {k : Nat} {a0 : GV} {a1 : GV} {a2 : GV} {v : GV} (e : run k a0 a1 a2 [] finN = some v) : NN fn.spec_Sealed [a0, a1, a2] = some v := nω_of (by kernel_rfl) ((run_eq k a0 a1 a2 [] finN).trans e)
end S.spec_Sealed
/-! impl_Sealed -/
namespace S.impl_Sealed
noncomputable def c0 : Code := bodyOf Tryd.f17
@[simp] def n0 {R : Type} (k : Nat) (G : KT1 R) (v0 v1 v2 : GV) (h : Heap) : Option R := (klenS v2).bind fun v10 => (kN NN fn.impl_isSeal [v0, v1, v10] h).bind fun v11 => (kun .not v11).bind fun v12 => kcond v12 (G .ret (.str { data := #[] }) h) ((kN NN fn.impl_decimal [v1] h).bind fun v14 => (kbin .add v14 (.str { data := #[32] })).bind fun v15 => (kN NN fn.impl_Mark [v0, v1, v2] h).bind fun v19 => (kN NN fn.impl_decimal [v19] h).bind fun v20 => (kbin .add v15 v20).bind fun v21 => (kbin .add v21 (.str { data := #[32] })).bind fun v22 => (kN NN fn.impl_xored [v0, v1, v2] h).bind fun v26 => (kbin .add v22 v26).bind fun v27 => G .ret v27 h)
theorem n0_eq {R : Type} (k : Nat) (G : KT1 R) (σ : GS) (h : Heap) : KC k 28 c0 σ h (fun x σ h => G x (σ 6) h) = n0 k G (σ 0) (σ 1) (σ 2) h := by kernel_rfl
def run {R : Type} (k : Nat) (a0 : GV) (a1 : GV) (a2 : GV) (h : Heap) (fin : GV → Heap → Option R) : Option R := n0 k (fun x v6 h => kend x (fin v6 h)) a0 a1 a2 h
theorem run_eq {R : Type} (k : Nat) (a0 : GV) (a1 : GV) (a2 : GV) (h : Heap) (fin : GV → Heap → Option R) : kfun PP cfg NN HH k fn.impl_Sealed [a0, a1, a2] h fin = run k a0 a1 a2 h fin := (kfun_eq (nt := 28) (c := c0) (show PP.funcs[fn.impl_Sealed]? = some Tryd.f17 by kernel_rfl) (by kernel_rfl) (by kernel_rfl) (fun x σ h => by cases x <;> kernel_rfl)).trans (n0_eq k (fun x v6 h => kend x (fin v6 h)) _ h)
theorem gives {k : Nat} {a0 : GV} {a1 : GV} {a2 : GV} {v : GV} (e : run k a0 a1 a2 [] finN = some v) : NN fn.impl_Sealed [a0, a1, a2] = some v := nω_of (by kernel_rfl) ((run_eq k a0 a1 a2 [] finN).trans e)
end S.impl_Sealed
/-! laws_szEntry -/
namespace S.laws_szEntry
noncomputable def c0 : Code := bodyOf Tryd.f18
@[simp] def n0 {R : Type} (k : Nat) (G : KT1 R) (v0 v1 : GV) (h : Heap) : Option R := kbox v0 h fun v2 h => (kfa 3 v2).bind fun v6 => (kload1 h v6).bind fun v7 => (klenS v7).bind fun v8 => (kbin .sub v1 v8).bind fun v9 => (kbin .lss v9 (.int .i64 0)).bind fun v11 => kcond v11 (G .ret (.int .i64 (-1)) h) (G .ret v9 h)
theorem n0_eq {R : Type} (k : Nat) (G : KT1 R) (σ : GS) (h : Heap) : KC k 13 c0 σ h (fun x σ h => G x (σ 4) h) = n0 k G (σ 0) (σ 1) h := by kernel_rfl
def run {R : Type} (k : Nat) (a0 : GV) (a1 : GV) (h : Heap) (fin : GV → Heap → Option R) : Option R := n0 k (fun x v4 h => kend x (fin v4 h)) a0 a1 h
theorem run_eq {R : Type} (k : Nat) (a0 : GV) (a1 : GV) (h : Heap) (fin : GV → Heap → Option R) : kfun PP cfg NN HH k fn.laws_szEntry [a0, a1] h fin = run k a0 a1 h fin := (kfun_eq (nt := 13) (c := c0) (show PP.funcs[fn.laws_szEntry]? = some Tryd.f18 by kernel_rfl) (by kernel_rfl) (by kernel_rfl) (fun x σ h => by cases x <;> kernel_rfl)).trans (n0_eq k (fun x v4 h => kend x (fin v4 h)) _ h)
theorem gives {k : Nat} {a0 : GV} {a1 : GV} {v : GV} (e : run k a0 a1 [] finN = some v) : NN fn.laws_szEntry [a0, a1] = some v := nω_of (by kernel_rfl) ((run_eq k a0 a1 [] finN).trans e)
end S.laws_szEntry
/-! spec_ShowEntry -/
namespace S.spec_ShowEntry
noncomputable def c0 : Code := bodyOf Tryd.f19
@[simp] def n0 {R : Type} (k : Nat) (G : KT1 R) (v0 : GV) (h : Heap) : Option R := kbox v0 h fun v1 h => (kloadA 4 h v1).bind fun v3 => (kN NN fn.spec_EntryOk [v3] h).bind fun v4 => (kun .not v4).bind fun v5 => kcond v5 (G .ret (.str { data := #[] }) h) ((kloadA 4 h v1).bind fun v6 => (kN NN fn.spec_l18Show [v6] h).bind fun v7 => G .ret v7 h)
theorem n0_eq {R : Type} (k : Nat) (G : KT1 R) (σ : GS) (h : Heap) : KC k 8 c0 σ h (fun x σ h => G x (σ 2) h) = n0 k G (σ 0) h := by kernel_rfl
def run {R : Type} (k : Nat) (a0 : GV) (h : Heap) (fin : GV → Heap → Option R) : Option R := n0 k (fun x v2 h => kend x (fin v2 h)) a0 h
theorem run_eq {R : Type} (k : Nat) (a0 : GV) (h : Heap) (fin : GV → Heap → Option R) : kfun PP cfg NN HH k fn.spec_ShowEntry [a0] h fin = run k a0 h fin := (kfun_eq (nt := 8) (c := c0) (show PP.funcs[fn.spec_ShowEntry]? = some Tryd.f19 by kernel_rfl) (by kernel_rfl) (by kernel_rfl) (fun x σ h => by cases x <;> kernel_rfl)).trans (n0_eq k (fun x v2 h => kend x (fin v2 h)) _ h)
theorem gives {k : Nat} {a0 : GV} {v : GV} (e : run k a0 [] finN = some v) : NN fn.spec_ShowEntry [a0] = some v := nω_of (by kernel_rfl) ((run_eq k a0 [] finN).trans e)
end S.spec_ShowEntry
/-! laws_toEntry -/
namespace S.laws_toEntry
noncomputable def c0 : Code := bodyOf Tryd.f20
@[simp] def n0 {R : Type} (k : Nat) (G : KT1 R) (v0 : GV) (h : Heap) : Option R := kbox v0 h fun v1 h => kalloc [(.int .i64 0), (.int .i64 0), (.int .i64 0), (.str { data := #[] })] h fun v2 h => kalloc [(.int .i64 0), (.int .i64 0), (.int .i64 0), (.str { data := #[] })] h fun v3 h => (kfa 0 v1).bind fun v4 => (kload1 h v4).bind fun v5 => (kfa 0 v3).bind fun v6 => (kstore 1 h v6 v5).bind fun h => (kfa 1 v1).bind fun v7 => (kload1 h v7).bind fun v8 => (kfa 1 v3).bind fun v9 => (kstore 1 h v9 v8).bind fun h => (kfa 2 v1).bind fun v10 => (kload1 h v10).bind fun v11 => (kfa 2 v3).bind fun v12 => (kstore 1 h v12 v11).bind fun h => (kfa 3 v1).bind fun v13 => (kload1 h v13).bind fun v14 => (kfa 3 v3).bind fun v15 => (kstore 1 h v15 v14).bind fun h => (kloadA 4 h v3).bind fun v16 => (kstore 4 h v2 v16).bind fun h => G .ret v2 h
theorem n0_eq {R : Type} (k : Nat) (G : KT1 R) (σ : GS) (h : Heap) : KC k 17 c0 σ h (fun x σ h => G x (σ 2) h) = n0 k G (σ 0) h := by kernel_rfl
def run {R : Type} (k : Nat) (a0 : GV) (h : Heap) (fin : GV → Heap → Option R) : Option R := n0 k (fun x v2 h => kend x ((kloadA 4 h v2).bind fun w2 => fin w2 h)) a0 h
theorem run_eq {R : Type} (k : Nat) (a0 : GV) (h : Heap) (fin : GV → Heap → Option R) : kfun PP cfg NN HH k fn.laws_toEntry [a0] h fin = run k a0 h fin := (kfun_eq (nt := 17) (c := c0) (show PP.funcs[fn.laws_toEntry]? = some Tryd.f20 by kernel_rfl) (by kernel_rfl) (by kernel_rfl) (fun x σ h => by cases x <;> kernel_rfl)).trans (n0_eq k (fun x v2 h => kend x ((kloadA 4 h v2).bind fun w2 => fin w2 h)) _ h)
theorem gives {k : Nat} {a0 : GV} {v : GV} (e : run k a0 [] finN = some v) : NN fn.laws_toEntry [a0] = some v := nω_of (by kernel_rfl) ((run_eq k a0 [] finN).trans e)
end S.laws_toEntry
/-! impl_ShowEntry -/
namespace S.impl_ShowEntry
noncomputable def c0 : Code := bodyOf Tryd.f21
noncomputable def c1 : Code := cR c0
noncomputable def c2 : Code := cR c1
@[simp] def n2 {R : Type} (k : Nat) (G : KT1 R) (v1 : GV) (h : Heap) : Option R := (kfa 1 v1).bind fun v31 => (kload1 h v31).bind fun v32 => (kfa 2 v1).bind fun v33 => (kload1 h v33).bind fun v34 => (gfill (fun i => some (i * 1, 1)) (zeros [(.int .i64 0)] 2) [(0, v32), (1, v34)]).bind fun c => kbs 2 1 c h fun v35 h => (kN NN fn.impl_spaced [v35] h).bind fun v36 => (kbin .add (.str { data := #[115, 105, 122, 101, 32] }) v36).bind fun v37 => G .ret v37 h
theorem n2_eq {R : Type} (k : Nat) (G : KT1 R) (σ : GS) (h : Heap) : KC k 38 c2 σ h (fun x σ h => G x (σ 2) h) = n2 k G (σ 1) h := by kernel_rfl
noncomputable def c3 : Code := cL c1
noncomputable def c4 : Code := cL c3
noncomputable def c5 : Code := cR c4
noncomputable def c6 : Code := cL c5
@[simp] def n6 {R : Type} (k : Nat) (G : KT2 R) (v1 : GV) (h : Heap) : Option R := G .ret v1 (.str { data := #[] }) h
theorem n6_eq {R : Type} (k : Nat) (G : KT2 R) (σ : GS) (h : Heap) : KC k 38 c6 σ h (fun x σ h => G x (σ 1) (σ 2) h) = n6 k G (σ 1) h := by kernel_rfl
noncomputable def c7 : Code := cR c5
noncomputable def c8 : Code := cR c7
noncomputable def c9 : Code := cL c8
noncomputable def c10 : Code := cR c9
@[simp] def n10 {R : Type} (k : Nat) (G : KT2 R) (v1 v2 : GV) (h : Heap) : Option R := G .ret v1 v2 h
theorem n10_eq {R : Type} (k : Nat) (G : KT2 R) (σ : GS) (h : Heap) : KC k 38 c10 σ h (fun x σ h => G x (σ 1) (σ 2) h) = n10 k G (σ 1) (σ 2) h := by kernel_rfl
noncomputable def c11 : Code := cL c9
noncomputable def o11 : Array Oper := cO c11
@[simp] def g11_0 {R : Type} (k : Nat) (G : KT2 R) (v1 : GV) (rs : List Rec) (h : Heap) : Option R := (kfa 1 v1).bind fun v11 => (kload1 h v11).bind fun v12 => (kfa 2 v1).bind fun v13 => (kload1 h v13).bind fun v14 => kold h fun h0 => (gfill (fun i => some (i * 1, 1)) (zeros [(.int .i64 0)] 2) [(0, v12), (1, v14)]).bind fun c => kbs 2 1 c h fun v15 h => krs (rs ++ [⟨4, h0.length, h.length, ⟨[], []⟩⟩]) fun rs => (kN NN fn.impl_spaced [v15] h).bind fun v16 => (kbin .add (.str { data := #[107, 101, 121, 115, 32] }) v16).bind fun v17 => (kbin .add v17 (.str { data := #[32] })).bind fun v18 => (kfa 3 v1).bind fun v19 => kold h fun h0 => (kload1 h v19).bind fun v20 => krs (rs ++ [⟨9, h0.length, h.length, ⟨kblk v19, []⟩⟩]) fun rs => (kN NN fn.impl_hex [v20] h).bind fun v21 => (kbin .add v18 v21).bind fun v22 => bif chk [(4, 9)] rs then G .nrm v1 v22 h else none
theorem g11_0_eq {R : Type} (k : Nat) (G : KT2 R) (rs : List Rec) (σ : GS) (h : Heap) : kgroupsD PP cfg NN HH 38 o11 [(4, 9)] [(none, [0, 1, 2, 3, 4, 5, 6, 7, 8, 9, 10, 11, 12])] rs σ h (fun rs σ h => bif chk [(4, 9)] rs then G .nrm (σ 1) (σ 2) h else none) = g11_0 k G (σ 1) rs h := by kernel_rfl
@[simp] def n11 {R : Type} (k : Nat) (G : KT2 R) (v1 : GV) (h : Heap) : Option R := g11_0 k G v1 [] h
theorem n11_eq {R : Type} (k : Nat) (G : KT2 R) (σ : GS) (h : Heap) : KC k 38 c11 σ h (fun x σ h => G x (σ 1) (σ 2) h) = n11 k G (σ 1) h := (kregionD_eq (id := 4) (draw := true) (ops := o11) (gs := [(none, [0, 1, 2, 3, 4, 5, 6, 7, 8, 9, 10, 11, 12])]) (bad := [(4, 9)]) (by kernel_rfl) (by kernel_rfl) (by kernel_rfl) (by kernel_rfl) (by kernel_rfl)).trans (g11_0_eq k G [] σ h)
@[simp] def n9 {R : Type} (k : Nat) (G : KT2 R) (v1 : GV) (h : Heap) : Option R := n11 k (fun x v1 v2 h => kx x (n10 k G v1 v2 h) (G x v1 v2 h)) v1 h
theorem n9_eq {R : Type} (k : Nat) (G : KT2 R) (σ : GS) (h : Heap) : KC k 38 c9 σ h (fun x σ h => G x (σ 1) (σ 2) h) = n9 k G (σ 1) h := (kseq (b := c10) rfl (fun σ h => n10_eq k G σ h)).trans (n11_eq k (fun x v1 v2 h => kx x (n10 k G v1 v2 h) (G x v1 v2 h)) σ h)
noncomputable def c12 : Code := cR c8
@[simp] def n12 {R : Type} (k : Nat) (G : KT2 R) (v1 v2 : GV) (h : Heap) : Option R := (kfa 0 v1).bind fun v24 => (kload1 h v24).bind fun v25 => (kbin .eql v25 (.int .i64 2)).bind fun v26 => kcond v26 ((kfa 3 v1).bind fun v27 => (kload1 h v27).bind fun v28 => (kN NN fn.impl_hex [v28] h).bind fun v29 => (kbin .add (.str { data := #[111, 117, 116, 32] }) v29).bind fun v30 => G .ret v1 v30 h) (G .nrm v1 v2 h)
theorem n12_eq {R : Type} (k : Nat) (G : KT2 R) (σ : GS) (h : Heap) : KC k 38 c12 σ h (fun x σ h => G x (σ 1) (σ 2) h) = n12 k G (σ 1) (σ 2) h := by kernel_rfl
@[simp] def n8 {R : Type} (k : Nat) (G : KT2 R) (v1 v2 v7 : GV) (h : Heap) : Option R := kcond v7 (n9 k G v1 h) (n12 k G v1 v2 h)
theorem n8_eq {R : Type} (k : Nat) (G : KT2 R) (σ : GS) (h : Heap) : KC k 38 c8 σ h (fun x σ h => G x (σ 1) (σ 2) h) = n8 k G (σ 1) (σ 2) (σ 7) h := (kcond_eq (a := c9) (b := c12) rfl (by rfl)).trans (congr (congrArg (kcond (σ 7)) (n9_eq k G σ h)) (n12_eq k G σ h))
noncomputable def c13 : Code := cL c7
@[simp] def n7 {R : Type} (k : Nat) (G : KT2 R) (v1 v2 : GV) (h : Heap) : Option R := (kfa 0 v1).bind fun v8 => (kload1 h v8).bind fun v9 => (kbin .eql v9 (.int .i64 1)).bind fun v10 => n8 k G v1 v2 v10 h
theorem n7_eq0 {R : Type} (k : Nat) (G : KT2 R) (σ : GS) (h : Heap) : KC k 38 c13 σ h (fun x σ h => kx x (n8 k G (σ 1) (σ 2) (σ 7) h) (G x (σ 1) (σ 2) h)) = n7 k G (σ 1) (σ 2) h := by kernel_rfl
theorem n7_eq {R : Type} (k : Nat) (G : KT2 R) (σ : GS) (h : Heap) : KC k 38 c7 σ h (fun x σ h => G x (σ 1) (σ 2) h) = n7 k G (σ 1) (σ 2) h := (kseq (b := c8) rfl (fun σ h => n8_eq k G σ h)).trans (n7_eq0 k G σ h)
@[simp] def n5 {R : Type} (k : Nat) (G : KT2 R) (v1 v2 v3 : GV) (h : Heap) : Option R := kcond v3 (n6 k G v1 h) (n7 k G v1 v2 h)
theorem n5_eq {R : Type} (k : Nat) (G : KT2 R) (σ : GS) (h : Heap) : KC k 38 c5 σ h (fun x σ h => G x (σ 1) (σ 2) h) = n5 k G (σ 1) (σ 2) (σ 3) h := (kcond_eq (a := c6) (b := c7) rfl (by rfl)).trans (congr (congrArg (kcond (σ 3)) (n6_eq k G σ h)) (n7_eq k G σ h))
noncomputable def c14 : Code := cL c4
@[simp] def n4 {R : Type} (k : Nat) (G : KT2 R) (v1 v2 : GV) (h : Heap) : Option R := (kloadA 4 h v1).bind fun v4 => (kN NN fn.impl_EntryOk [v4] h).bind fun v5 => (kun .not v5).bind fun v6 => n5 k G v1 v2 v6 h
theorem n4_eq0 {R : Type} (k : Nat) (G : KT2 R) (σ : GS) (h : Heap) : KC k 38 c14 σ h (fun x σ h => kx x (n5 k G (σ 1) (σ 2) (σ 3) h) (G x (σ 1) (σ 2) h)) = n4 k G (σ 1) (σ 2) h := by kernel_rfl
theorem n4_eq {R : Type} (k : Nat) (G : KT2 R) (σ : GS) (h : Heap) : KC k 38 c4 σ h (fun x σ h => G x (σ 1) (σ 2) h) = n4 k G (σ 1) (σ 2) h := (kseq (b := c5) rfl (fun σ h => n5_eq k G σ h)).trans (n4_eq0 k G σ h)
@[simp] def n3 {R : Type} (k : Nat) (G : KT2 R) (v1 v2 : GV) (h : Heap) : Option R := n4 k (fun x v1 v2 h => kb 0 x fun x => G x v1 v2 h) v1 v2 h
theorem n3_eq {R : Type} (k : Nat) (G : KT2 R) (σ : GS) (h : Heap) : KC k 38 c3 σ h (fun x σ h => G x (σ 1) (σ 2) h) = n3 k G (σ 1) (σ 2) h := (kblock_eq (a := c4) rfl).trans (n4_eq k (fun x v1 v2 h => kb 0 x fun x => G x v1 v2 h) σ h)
@[simp] def n1 {R : Type} (k : Nat) (G : KT1 R) (v1 v2 : GV) (h : Heap) : Option R := n3 k (fun x v1 v2 h => kx x (n2 k G v1 h) (G x v2 h)) v1 v2 h
theorem n1_eq {R : Type} (k : Nat) (G : KT1 R) (σ : GS) (h : Heap) : KC k 38 c1 σ h (fun x σ h => G x (σ 2) h) = n1 k G (σ 1) (σ 2) h := (kseq (b := c2) rfl (fun σ h => n2_eq k G σ h)).trans (n3_eq k (fun x v1 v2 h => kx x (n2 k G v1 h) (G x v2 h)) σ h)
noncomputable def c15 : Code := cL c0
@[simp] def n0 {R : Type} (k : Nat) (G : KT1 R) (v0 : GV) (h : Heap) : Option R := kbox v0 h fun v1 h => n1 k G v1 (.str { data := #[] }) h
theorem n0_eq0 {R : Type} (k : Nat) (G : KT1 R) (σ : GS) (h : Heap) : KC k 38 c15 σ h (fun x σ h => kx x (n1 k G (σ 1) (σ 2) h) (G x (σ 2) h)) = n0 k G (σ 0) h := by kernel_rfl
theorem n0_eq {R : Type} (k : Nat) (G : KT1 R) (σ : GS) (h : Heap) : KC k 38 c0 σ h (fun x σ h => G x (σ 2) h) = n0 k G (σ 0) h := (kseq (b := c1) rfl (fun σ h => n1_eq k G σ h)).trans (n0_eq0 k G σ h)
def run {R : Type} (k : Nat) (a0 : GV) (h : Heap) (fin : GV → Heap → Option R) : Option R := n0 k (fun x v2 h => kend x (fin v2 h)) a0 h
theorem run_eq {R : Type} (k : Nat) (a0 : GV) (h : Heap) (fin : GV → Heap → Option R) : kfun PP cfg NN HH k fn.impl_ShowEntry [a0] h fin = run k a0 h fin := (kfun_eq (nt := 38) (c := c0) (show PP.funcs[fn.impl_ShowEntry]? = some Tryd.f21 by kernel_rfl) (by kernel_rfl) (by kernel_rfl) (fun x σ h => by cases x <;> kernel_rfl)).trans (n0_eq k (fun x v2 h => kend x (fin v2 h)) _ h)
theorem gives {k : Nat} {a0 : GV} {v : GV} (e : run k a0 [] finN = some v) : NN fn.impl_ShowEntry [a0] = some v := nω_of (by kernel_rfl) ((run_eq k a0 [] finN).trans e)
end S.impl_ShowEntry
/-! impl_Mark -/
namespace S.impl_Mark
noncomputable def c0 : Code := bodyOf Tryd.f34
noncomputable def c1 : Code := cR c0
noncomputable def c2 : Code := cR c1
noncomputable def c3 : Code := cR c2
noncomputable def c4 : Code := cR c3
@[simp] def n4 {R : Type} (k : Nat) (G : KT1 R) (v7 : GV) (h : Heap) : Option R := G .ret v7 h
theorem n4_eq {R : Type} (k : Nat) (G : KT1 R) (σ : GS) (h : Heap) : KC k 35 c4 σ h (fun x σ h => G x (σ 6) h) = n4 k G (σ 7) h := by kernel_rfl
noncomputable def c5 : Code := cL c3
noncomputable def c6 : Code := cR c5
noncomputable def c7 : Code := cL c6
noncomputable def c8 : Code := cL c7
noncomputable def c9 : Code := cR c8
noncomputable def c10 : Code := cR c9
noncomputable def c11 : Code := cR c10
@[simp] def n11 {R : Type} (k : Nat) (G : KT5 R) (v2 v6 v7 v22 v23 : GV) (h : Heap) : Option R := (kbin .add v23 (.int .i64 1)).bind fun v33 => G .nrm v2 v6 v7 v22 v33 h
theorem n11_eq {R : Type} (k : Nat) (G : KT5 R) (σ : GS) (h : Heap) : KC k 35 c11 σ h (fun x σ h => G x (σ 2) (σ 6) (σ 7) (σ 22) (σ 23) h) = n11 k G (σ 2) (σ 6) (σ 7) (σ 22) (σ 23) h := by kernel_rfl
noncomputable def c12 : Code := cL c10
noncomputable def c13 : Code := cL c12
@[simp] def n13 {R : Type} (k : Nat) (G : KT5 R) (v2 v6 v7 v22 v23 : GV) (h : Heap) : Option R := (kbyte v2 v23).bind fun v29 => (kconvI .i64 v29).bind fun v30 => (kbin .add v30 (.int .i64 1)).bind fun v31 => (kN NN fn.impl_Mix [v7, v31] h).bind fun v32 => G .nrm v2 v6 v32 v22 v23 h
theorem n13_eq {R : Type} (k : Nat) (G : KT5 R) (σ : GS) (h : Heap) : KC k 35 c13 σ h (fun x σ h => G x (σ 2) (σ 6) (σ 7) (σ 22) (σ 23) h) = n13 k G (σ 2) (σ 6) (σ 7) (σ 22) (σ 23) h := by kernel_rfl
@[simp] def n12 {R : Type} (k : Nat) (G : KT5 R) (v2 v6 v7 v22 v23 : GV) (h : Heap) : Option R := n13 k (fun x v2 v6 v7 v22 v23 h => kb 1 x fun x => G x v2 v6 v7 v22 v23 h) v2 v6 v7 v22 v23 h
theorem n12_eq {R : Type} (k : Nat) (G : KT5 R) (σ : GS) (h : Heap) : KC k 35 c12 σ h (fun x σ h => G x (σ 2) (σ 6) (σ 7) (σ 22) (σ 23) h) = n12 k G (σ 2) (σ 6) (σ 7) (σ 22) (σ 23) h := (kblock_eq (a := c13) rfl).trans (n13_eq k (fun x v2 v6 v7 v22 v23 h => kb 1 x fun x => G x v2 v6 v7 v22 v23 h) σ h)
@[simp] def n10 {R : Type} (k : Nat) (G : KT5 R) (v2 v6 v7 v22 v23 : GV) (h : Heap) : Option R := n12 k (fun x v2 v6 v7 v22 v23 h => kx x (n11 k G v2 v6 v7 v22 v23 h) (G x v2 v6 v7 v22 v23 h)) v2 v6 v7 v22 v23 h
theorem n10_eq {R : Type} (k : Nat) (G : KT5 R) (σ : GS) (h : Heap) : KC k 35 c10 σ h (fun x σ h => G x (σ 2) (σ 6) (σ 7) (σ 22) (σ 23) h) = n10 k G (σ 2) (σ 6) (σ 7) (σ 22) (σ 23) h := (kseq (b := c11) rfl (fun σ h => n11_eq k G σ h)).trans (n12_eq k (fun x v2 v6 v7 v22 v23 h => kx x (n11 k G v2 v6 v7 v22 v23 h) (G x v2 v6 v7 v22 v23 h)) σ h)
noncomputable def c14 : Code := cL c9
@[simp] def n9 {R : Type} (k : Nat) (G : KT5 R) (v2 v6 v7 v22 v23 v24 : GV) (h : Heap) : Option R := kcond v24 (n10 k G v2 v6 v7 v22 v23 h) (G (.ext 0) v2 v6 v7 v22 v23 h)
theorem n9_eq0 {R : Type} (k : Nat) (G : KT5 R) (σ : GS) (h : Heap) : KC k 35 c14 σ h (fun x σ h => kx x (n10 k G (σ 2) (σ 6) (σ 7) (σ 22) (σ 23) h) (G x (σ 2) (σ 6) (σ 7) (σ 22) (σ 23) h)) = n9 k G (σ 2) (σ 6) (σ 7) (σ 22) (σ 23) (σ 24) h := by kernel_rfl
theorem n9_eq {R : Type} (k : Nat) (G : KT5 R) (σ : GS) (h : Heap) : KC k 35 c9 σ h (fun x σ h => G x (σ 2) (σ 6) (σ 7) (σ 22) (σ 23) h) = n9 k G (σ 2) (σ 6) (σ 7) (σ 22) (σ 23) (σ 24) h := (kseq (b := c10) rfl (fun σ h => n10_eq k G σ h)).trans (n9_eq0 k G σ h)
noncomputable def c15 : Code := cL c8
@[simp] def n8 {R : Type} (k : Nat) (G : KT5 R) (v2 v6 v7 v22 v23 : GV) (h : Heap) : Option R := (kbin .lss v23 v22).bind fun v24 => n9 k G v2 v6 v7 v22 v23 v24 h
theorem n8_eq0 {R : Type} (k : Nat) (G : KT5 R) (σ : GS) (h : Heap) : KC k 35 c15 σ h (fun x σ h => kx x (n9 k G (σ 2) (σ 6) (σ 7) (σ 22) (σ 23) (σ 24) h) (G x (σ 2) (σ 6) (σ 7) (σ 22) (σ 23) h)) = n8 k G (σ 2) (σ 6) (σ 7) (σ 22) (σ 23) h := by kernel_rfl
theorem n8_eq {R : Type} (k : Nat) (G : KT5 R) (σ : GS) (h : Heap) : KC k 35 c8 σ h (fun x σ h => G x (σ 2) (σ 6) (σ 7) (σ 22) (σ 23) h) = n8 k G (σ 2) (σ 6) (σ 7) (σ 22) (σ 23) h := (kseq (b := c9) rfl (fun σ h => n9_eq k G σ h)).trans (n8_eq0 k G σ h)
def l7 {R : Type} (k : Nat) (G : KT2 R) : Nat → GV → GV → GV → GV → GV → Heap → Option R
  | 0, _, _, _, _, _, _ => none
  | r + 1, v2, v6, v7, v22, v23, h => n8 k (fun x v2 v6 v7 v22 v23 h => kx x (l7 k G r v2 v6 v7 v22 v23 h) (G x v6 v7 h)) v2 v6 v7 v22 v23 h
theorem l7_eq {R : Type} (k : Nat) (G : KT2 R) : ∀ (r : Nat) (σ : GS) (h : Heap), kloop (fun σ h K => KC k 35 c8 σ h K) r σ h (fun x σ h => G x (σ 6) (σ 7) h) = l7 k G r (σ 2) (σ 6) (σ 7) (σ 22) (σ 23) h
  | 0, _, _ => rfl
  | r + 1, σ, h => (kloop_eq (fun σ h => l7_eq k G r σ h)).trans (n8_eq k (fun x v2 v6 v7 v22 v23 h => kx x (l7 k G r v2 v6 v7 v22 v23 h) (G x v6 v7 h)) σ h)
@[simp] def n7 {R : Type} (k : Nat) (G : KT2 R) (v2 v6 v7 v22 v23 : GV) (h : Heap) : Option R := l7 k G k v2 v6 v7 v22 v23 h
theorem n7_eq {R : Type} (k : Nat) (G : KT2 R) (σ : GS) (h : Heap) : KC k 35 c7 σ h (fun x σ h => G x (σ 6) (σ 7) h) = n7 k G (σ 2) (σ 6) (σ 7) (σ 22) (σ 23) h := (kloopc_eq (a := c8) rfl).trans (l7_eq k G k σ h)
@[simp] def n6 {R : Type} (k : Nat) (G : KT2 R) (v2 v6 v7 v22 v23 : GV) (h : Heap) : Option R := n7 k (fun x v6 v7 h => kb 0 x fun x => G x v6 v7 h) v2 v6 v7 v22 v23 h
theorem n6_eq {R : Type} (k : Nat) (G : KT2 R) (σ : GS) (h : Heap) : KC k 35 c6 σ h (fun x σ h => G x (σ 6) (σ 7) h) = n6 k G (σ 2) (σ 6) (σ 7) (σ 22) (σ 23) h := (kblock_eq (a := c7) rfl).trans (n7_eq k (fun x v6 v7 h => kb 0 x fun x => G x v6 v7 h) σ h)
noncomputable def c16 : Code := cL c5
@[simp] def n5 {R : Type} (k : Nat) (G : KT2 R) (v2 v6 v7 : GV) (h : Heap) : Option R := (klenS v2).bind fun v22 => n6 k G v2 v6 v7 v22 (.int .i64 0) h
theorem n5_eq0 {R : Type} (k : Nat) (G : KT2 R) (σ : GS) (h : Heap) : KC k 35 c16 σ h (fun x σ h => kx x (n6 k G (σ 2) (σ 6) (σ 7) (σ 22) (σ 23) h) (G x (σ 6) (σ 7) h)) = n5 k G (σ 2) (σ 6) (σ 7) h := by kernel_rfl
theorem n5_eq {R : Type} (k : Nat) (G : KT2 R) (σ : GS) (h : Heap) : KC k 35 c5 σ h (fun x σ h => G x (σ 6) (σ 7) h) = n5 k G (σ 2) (σ 6) (σ 7) h := (kseq (b := c6) rfl (fun σ h => n6_eq k G σ h)).trans (n5_eq0 k G σ h)
@[simp] def n3 {R : Type} (k : Nat) (G : KT1 R) (v2 v6 v7 : GV) (h : Heap) : Option R := n5 k (fun x v6 v7 h => kx x (n4 k G v7 h) (G x v6 h)) v2 v6 v7 h
theorem n3_eq {R : Type} (k : Nat) (G : KT1 R) (σ : GS) (h : Heap) : KC k 35 c3 σ h (fun x σ h => G x (σ 6) h) = n3 k G (σ 2) (σ 6) (σ 7) h := (kseq (b := c4) rfl (fun σ h => n4_eq k G σ h)).trans (n5_eq k (fun x v6 v7 h => kx x (n4 k G v7 h) (G x v6 h)) σ h)
noncomputable def c17 : Code := cL c2
@[simp] def n2 {R : Type} (k : Nat) (G : KT1 R) (v0 v1 v2 v6 : GV) (h : Heap) : Option R := (kN NN fn.impl_begun [(.int .i64 5), v0, v1] h).bind fun v17 => (klenS v2).bind fun v19 => (kN NN fn.impl_Mix [v17, v19] h).bind fun v20 => n3 k G v2 v6 v20 h
theorem n2_eq0 {R : Type} (k : Nat) (G : KT1 R) (σ : GS) (h : Heap) : KC k 35 c17 σ h (fun x σ h => kx x (n3 k G (σ 2) (σ 6) (σ 7) h) (G x (σ 6) h)) = n2 k G (σ 0) (σ 1) (σ 2) (σ 6) h := by kernel_rfl
theorem n2_eq {R : Type} (k : Nat) (G : KT1 R) (σ : GS) (h : Heap) : KC k 35 c2 σ h (fun x σ h => G x (σ 6) h) = n2 k G (σ 0) (σ 1) (σ 2) (σ 6) h := (kseq (b := c3) rfl (fun σ h => n3_eq k G σ h)).trans (n2_eq0 k G σ h)
noncomputable def c18 : Code := cL c1
@[simp] def n1 {R : Type} (k : Nat) (G : KT1 R) (v0 v1 v2 v6 : GV) (h : Heap) : Option R := (klenS v2).bind fun v12 => (kN NN fn.impl_isSeal [v0, v1, v12] h).bind fun v13 => (kun .not v13).bind fun v14 => kcond v14 (G .ret (.int .i64 (-1)) h) (n2 k G v0 v1 v2 v6 h)
theorem n1_eq0 {R : Type} (k : Nat) (G : KT1 R) (σ : GS) (h : Heap) : KC k 35 c18 σ h (fun x σ h => kx x (n2 k G (σ 0) (σ 1) (σ 2) (σ 6) h) (G x (σ 6) h)) = n1 k G (σ 0) (σ 1) (σ 2) (σ 6) h := by kernel_rfl
theorem n1_eq {R : Type} (k : Nat) (G : KT1 R) (σ : GS) (h : Heap) : KC k 35 c1 σ h (fun x σ h => G x (σ 6) h) = n1 k G (σ 0) (σ 1) (σ 2) (σ 6) h := (kseq (b := c2) rfl (fun σ h => n2_eq k G σ h)).trans (n1_eq0 k G σ h)
noncomputable def c19 : Code := cL c0
@[simp] def n0 {R : Type} (k : Nat) (G : KT1 R) (v0 v1 v2 : GV) (h : Heap) : Option R := n1 k G v0 v1 v2 (.int .i64 0) h
theorem n0_eq0 {R : Type} (k : Nat) (G : KT1 R) (σ : GS) (h : Heap) : KC k 35 c19 σ h (fun x σ h => kx x (n1 k G (σ 0) (σ 1) (σ 2) (σ 6) h) (G x (σ 6) h)) = n0 k G (σ 0) (σ 1) (σ 2) h := by kernel_rfl
theorem n0_eq {R : Type} (k : Nat) (G : KT1 R) (σ : GS) (h : Heap) : KC k 35 c0 σ h (fun x σ h => G x (σ 6) h) = n0 k G (σ 0) (σ 1) (σ 2) h := (kseq (b := c1) rfl (fun σ h => n1_eq k G σ h)).trans (n0_eq0 k G σ h)
def run {R : Type} (k : Nat) (a0 : GV) (a1 : GV) (a2 : GV) (h : Heap) (fin : GV → Heap → Option R) : Option R := n0 k (fun x v6 h => kend x (fin v6 h)) a0 a1 a2 h
theorem run_eq {R : Type} (k : Nat) (a0 : GV) (a1 : GV) (a2 : GV) (h : Heap) (fin : GV → Heap → Option R) : kfun PP cfg NN HH k fn.impl_Mark [a0, a1, a2] h fin = run k a0 a1 a2 h fin := (kfun_eq (nt := 35) (c := c0) (show PP.funcs[fn.impl_Mark]? = some Tryd.f34 by kernel_rfl) (by kernel_rfl) (by kernel_rfl) (fun x σ h => by cases x <;> kernel_rfl)).trans (n0_eq k (fun x v6 h => kend x (fin v6 h)) _ h)
theorem gives {k : Nat} {a0 : GV} {a1 : GV} {a2 : GV} {v : GV} (e : run k a0 a1 a2 [] finN = some v) : NN fn.impl_Mark [a0, a1, a2] = some v := nω_of (by kernel_rfl) ((run_eq k a0 a1 a2 [] finN).trans e)
end S.impl_Mark
/-! spec_Mark -/
namespace S.spec_Mark
noncomputable def c0 : Code := bodyOf Tryd.f37
noncomputable def c1 : Code := cR c0
noncomputable def c2 : Code := cR c1
noncomputable def c3 : Code := cR c2
noncomputable def c4 : Code := cR c3
@[simp] def n4 {R : Type} (k : Nat) (G : KT1 R) (v7 : GV) (h : Heap) : Option R := G .ret v7 h
theorem n4_eq {R : Type} (k : Nat) (G : KT1 R) (σ : GS) (h : Heap) : KC k 35 c4 σ h (fun x σ h => G x (σ 6) h) = n4 k G (σ 7) h := by kernel_rfl
noncomputable def c5 : Code := cL c3
noncomputable def c6 : Code := cR c5
noncomputable def c7 : Code := cL c6
noncomputable def c8 : Code := cL c7
noncomputable def c9 : Code := cR c8
noncomputable def c10 : Code := cR c9
@[simp] def n10 {R : Type} (k : Nat) (G : KT4 R) (v2 v6 v7 v8 : GV) (h : Heap) : Option R := (kbin .add v8 (.int .i64 1)).bind fun v26 => G .nrm v2 v6 v7 v26 h
theorem n10_eq {R : Type} (k : Nat) (G : KT4 R) (σ : GS) (h : Heap) : KC k 35 c10 σ h (fun x σ h => G x (σ 2) (σ 6) (σ 7) (σ 8) h) = n10 k G (σ 2) (σ 6) (σ 7) (σ 8) h := by kernel_rfl
noncomputable def c11 : Code := cL c9
noncomputable def c12 : Code := cL c11
@[simp] def n12 {R : Type} (k : Nat) (G : KT4 R) (v2 v6 v7 v8 : GV) (h : Heap) : Option R := (kbyte v2 v8).bind fun v30 => (kconvI .i64 v30).bind fun v31 => (kbin .add v31 (.int .i64 1)).bind fun v32 => (kN NN fn.spec_Mix [v7, v32] h).bind fun v33 => G .nrm v2 v6 v33 v8 h
theorem n12_eq {R : Type} (k : Nat) (G : KT4 R) (σ : GS) (h : Heap) : KC k 35 c12 σ h (fun x σ h => G x (σ 2) (σ 6) (σ 7) (σ 8) h) = n12 k G (σ 2) (σ 6) (σ 7) (σ 8) h := by kernel_rfl
@[simp] def n11 {R : Type} (k : Nat) (G : KT4 R) (v2 v6 v7 v8 : GV) (h : Heap) : Option R := n12 k (fun x v2 v6 v7 v8 h => kb 1 x fun x => G x v2 v6 v7 v8 h) v2 v6 v7 v8 h
theorem n11_eq {R : Type} (k : Nat) (G : KT4 R) (σ : GS) (h : Heap) : KC k 35 c11 σ h (fun x σ h => G x (σ 2) (σ 6) (σ 7) (σ 8) h) = n11 k G (σ 2) (σ 6) (σ 7) (σ 8) h := (kblock_eq (a := c12) rfl).trans (n12_eq k (fun x v2 v6 v7 v8 h => kb 1 x fun x => G x v2 v6 v7 v8 h) σ h)
@[simp] def n9 {R : Type} (k : Nat) (G : KT4 R) (v2 v6 v7 v8 : GV) (h : Heap) : Option R := n11 k (fun x v2 v6 v7 v8 h => kx x (n10 k G v2 v6 v7 v8 h) (G x v2 v6 v7 v8 h)) v2 v6 v7 v8 h
theorem n9_eq {R : Type} (k : Nat) (G : KT4 R) (σ : GS) (h : Heap) : KC k 35 c9 σ h (fun x σ h => G x (σ 2) (σ 6) (σ 7) (σ 8) h) = n9 k G (σ 2) (σ 6) (σ 7) (σ 8) h := (kseq (b := c10) rfl (fun σ h => n10_eq k G σ h)).trans (n11_eq k (fun x v2 v6 v7 v8 h => kx x (n10 k G v2 v6 v7 v8 h) (G x v2 v6 v7 v8 h)) σ h)
noncomputable def c13 : Code := cL c8
@[simp] def n8 {R : Type} (k : Nat) (G : KT4 R) (v2 v6 v7 v8 : GV) (h : Heap) : Option R := (klenS v2).bind fun v23 => (kbin .lss v8 v23).bind fun v24 => kcond v24 (n9 k G v2 v6 v7 v8 h) (G (.ext 0) v2 v6 v7 v8 h)
theorem n8_eq0 {R : Type} (k : Nat) (G : KT4 R) (σ : GS) (h : Heap) : KC k 35 c13 σ h (fun x σ h => kx x (n9 k G (σ 2) (σ 6) (σ 7) (σ 8) h) (G x (σ 2) (σ 6) (σ 7) (σ 8) h)) = n8 k G (σ 2) (σ 6) (σ 7) (σ 8) h := by kernel_rfl
theorem n8_eq {R : Type} (k : Nat) (G : KT4 R) (σ : GS) (h : Heap) : KC k 35 c8 σ h (fun x σ h => G x (σ 2) (σ 6) (σ 7) (σ 8) h) = n8 k G (σ 2) (σ 6) (σ 7) (σ 8) h := (kseq (b := c9) rfl (fun σ h => n9_eq k G σ h)).trans (n8_eq0 k G σ h)
def l7 {R : Type} (k : Nat) (G : KT2 R) : Nat → GV → GV → GV → GV → Heap → Option R
  | 0, _, _, _, _, _ => none
  | r + 1, v2, v6, v7, v8, h => n8 k (fun x v2 v6 v7 v8 h => kx x (l7 k G r v2 v6 v7 v8 h) (G x v6 v7 h)) v2 v6 v7 v8 h
theorem l7_eq {R : Type} (k : Nat) (G : KT2 R) : ∀ (r : Nat) (σ : GS) (h : Heap), kloop (fun σ h K => KC k 35 c8 σ h K) r σ h (fun x σ h => G x (σ 6) (σ 7) h) = l7 k G r (σ 2) (σ 6) (σ 7) (σ 8) h
  | 0, _, _ => rfl
  | r + 1, σ, h => (kloop_eq (fun σ h => l7_eq k G r σ h)).trans (n8_eq k (fun x v2 v6 v7 v8 h => kx x (l7 k G r v2 v6 v7 v8 h) (G x v6 v7 h)) σ h)
@[simp] def n7 {R : Type} (k : Nat) (G : KT2 R) (v2 v6 v7 v8 : GV) (h : Heap) : Option R := l7 k G k v2 v6 v7 v8 h
theorem n7_eq {R : Type} (k : Nat) (G : KT2 R) (σ : GS) (h : Heap) : KC k 35 c7 σ h (fun x σ h => G x (σ 6) (σ 7) h) = n7 k G (σ 2) (σ 6) (σ 7) (σ 8) h := (kloopc_eq (a := c8) rfl).trans (l7_eq k G k σ h)
@[simp] def n6 {R : Type} (k : Nat) (G : KT2 R) (v2 v6 v7 v8 : GV) (h : Heap) : Option R := n7 k (fun x v6 v7 h => kb 0 x fun x => G x v6 v7 h) v2 v6 v7 v8 h
theorem n6_eq {R : Type} (k : Nat) (G : KT2 R) (σ : GS) (h : Heap) : KC k 35 c6 σ h (fun x σ h => G x (σ 6) (σ 7) h) = n6 k G (σ 2) (σ 6) (σ 7) (σ 8) h := (kblock_eq (a := c7) rfl).trans (n7_eq k (fun x v6 v7 h => kb 0 x fun x => G x v6 v7 h) σ h)
noncomputable def c14 : Code := cL c5
@[simp] def n5 {R : Type} (k : Nat) (G : KT2 R) (v2 v6 v7 : GV) (h : Heap) : Option R := n6 k G v2 v6 v7 (.int .i64 0) h
theorem n5_eq0 {R : Type} (k : Nat) (G : KT2 R) (σ : GS) (h : Heap) : KC k 35 c14 σ h (fun x σ h => kx x (n6 k G (σ 2) (σ 6) (σ 7) (σ 8) h) (G x (σ 6) (σ 7) h)) = n5 k G (σ 2) (σ 6) (σ 7) h := by kernel_rfl
theorem n5_eq {R : Type} (k : Nat) (G : KT2 R) (σ : GS) (h : Heap) : KC k 35 c5 σ h (fun x σ h => G x (σ 6) (σ 7) h) = n5 k G (σ 2) (σ 6) (σ 7) h := (kseq (b := c6) rfl (fun σ h => n6_eq k G σ h)).trans (n5_eq0 k G σ h)
@[simp] def n3 {R : Type} (k : Nat) (G : KT1 R) (v2 v6 v7 : GV) (h : Heap) : Option R := n5 k (fun x v6 v7 h => kx x (n4 k G v7 h) (G x v6 h)) v2 v6 v7 h
theorem n3_eq {R : Type} (k : Nat) (G : KT1 R) (σ : GS) (h : Heap) : KC k 35 c3 σ h (fun x σ h => G x (σ 6) h) = n3 k G (σ 2) (σ 6) (σ 7) h := (kseq (b := c4) rfl (fun σ h => n4_eq k G σ h)).trans (n5_eq k (fun x v6 v7 h => kx x (n4 k G v7 h) (G x v6 h)) σ h)
noncomputable def c15 : Code := cL c2
@[simp] def n2 {R : Type} (k : Nat) (G : KT1 R) (v0 v1 v2 v6 : GV) (h : Heap) : Option R := (kN NN fn.spec_l14Begin [v0, v1, (.int .i64 5)] h).bind fun v17 => (klenS v2).bind fun v19 => (kN NN fn.spec_Mix [v17, v19] h).bind fun v20 => n3 k G v2 v6 v20 h
theorem n2_eq0 {R : Type} (k : Nat) (G : KT1 R) (σ : GS) (h : Heap) : KC k 35 c15 σ h (fun x σ h => kx x (n3 k G (σ 2) (σ 6) (σ 7) h) (G x (σ 6) h)) = n2 k G (σ 0) (σ 1) (σ 2) (σ 6) h := by kernel_rfl
theorem n2_eq {R : Type} (k : Nat) (G : KT1 R) (σ : GS) (h : Heap) : KC k 35 c2 σ h (fun x σ h => G x (σ 6) h) = n2 k G (σ 0) (σ 1) (σ 2) (σ 6) h := (kseq (b := c3) rfl (fun σ h => n3_eq k G σ h)).trans (n2_eq0 k G σ h)
noncomputable def c16 : Code := cL c1
@[simp] def n1 {R : Type} (k : Nat) (G : KT1 R) (v0 v1 v2 v6 : GV) (h : Heap) : Option R := (klenS v2).bind fun v12 => (kN NN fn.spec_l14Told [v0, v1, v12] h).bind fun v13 => (kun .not v13).bind fun v14 => kcond v14 (G .ret (.int .i64 (-1)) h) (n2 k G v0 v1 v2 v6 h)
theorem n1_eq0 {R : Type} (k : Nat) (G : KT1 R) (σ : GS) (h : Heap) : KC k 35 c16 σ h (fun x σ h => kx x (n2 k G (σ 0) (σ 1) (σ 2) (σ 6) h) (G x (σ 6) h)) = n1 k G (σ 0) (σ 1) (σ 2) (σ 6) h := by kernel_rfl
theorem n1_eq {R : Type} (k : Nat) (G : KT1 R) (σ : GS) (h : Heap) : KC k 35 c1 σ h (fun x σ h => G x (σ 6) h) = n1 k G (σ 0) (σ 1) (σ 2) (σ 6) h := (kseq (b := c2) rfl (fun σ h => n2_eq k G σ h)).trans (n1_eq0 k G σ h)
noncomputable def c17 : Code := cL c0
@[simp] def n0 {R : Type} (k : Nat) (G : KT1 R) (v0 v1 v2 : GV) (h : Heap) : Option R := n1 k G v0 v1 v2 (.int .i64 0) h
theorem n0_eq0 {R : Type} (k : Nat) (G : KT1 R) (σ : GS) (h : Heap) : KC k 35 c17 σ h (fun x σ h => kx x (n1 k G (σ 0) (σ 1) (σ 2) (σ 6) h) (G x (σ 6) h)) = n0 k G (σ 0) (σ 1) (σ 2) h := by kernel_rfl
theorem n0_eq {R : Type} (k : Nat) (G : KT1 R) (σ : GS) (h : Heap) : KC k 35 c0 σ h (fun x σ h => G x (σ 6) h) = n0 k G (σ 0) (σ 1) (σ 2) h := (kseq (b := c1) rfl (fun σ h => n1_eq k G σ h)).trans (n0_eq0 k G σ h)
def run {R : Type} (k : Nat) (a0 : GV) (a1 : GV) (a2 : GV) (h : Heap) (fin : GV → Heap → Option R) : Option R := n0 k (fun x v6 h => kend x (fin v6 h)) a0 a1 a2 h
theorem run_eq {R : Type} (k : Nat) (a0 : GV) (a1 : GV) (a2 : GV) (h : Heap) (fin : GV → Heap → Option R) : kfun PP cfg NN HH k fn.spec_Mark [a0, a1, a2] h fin = run k a0 a1 a2 h fin := (kfun_eq (nt := 35) (c := c0) (show PP.funcs[fn.spec_Mark]? = some Tryd.f37 by kernel_rfl) (by kernel_rfl) (by kernel_rfl) (fun x σ h => by cases x <;> kernel_rfl)).trans (n0_eq k (fun x v6 h => kend x (fin v6 h)) _ h)
theorem gives {k : Nat} {a0 : GV} {a1 : GV} {a2 : GV} {v : GV} (e : run k a0 a1 a2 [] finN = some v) : NN fn.spec_Mark [a0, a1, a2] = some v := nω_of (by kernel_rfl) ((run_eq k a0 a1 a2 [] finN).trans e)
end S.spec_Mark
/-! impl_Mix -/
namespace S.impl_Mix
noncomputable def c0 : Code := bodyOf Tryd.f38
noncomputable def c1 : Code := cR c0
noncomputable def c2 : Code := cR c1
noncomputable def c3 : Code := cR c2
@[simp] def n3 {R : Type} (k : Nat) (G : KT1 R) (v5 : GV) (h : Heap) : Option R := G .ret v5 h
theorem n3_eq {R : Type} (k : Nat) (G : KT1 R) (σ : GS) (h : Heap) : KC k 23 c3 σ h (fun x σ h => G x (σ 4) h) = n3 k G (σ 5) h := by kernel_rfl
noncomputable def c4 : Code := cL c2
noncomputable def c5 : Code := cR c4
noncomputable def c6 : Code := cL c5
noncomputable def c7 : Code := cL c6
noncomputable def c8 : Code := cR c7
noncomputable def c9 : Code := cR c8
noncomputable def c10 : Code := cR c9
@[simp] def n10 {R : Type} (k : Nat) (G : KT4 R) (v4 v5 v6 v13 : GV) (h : Heap) : Option R := (kbin .add v13 (.int .i64 1)).bind fun v21 => G .nrm v4 v5 v6 v21 h
theorem n10_eq {R : Type} (k : Nat) (G : KT4 R) (σ : GS) (h : Heap) : KC k 23 c10 σ h (fun x σ h => G x (σ 4) (σ 5) (σ 6) (σ 13) h) = n10 k G (σ 4) (σ 5) (σ 6) (σ 13) h := by kernel_rfl
noncomputable def c11 : Code := cL c9
noncomputable def c12 : Code := cL c11
@[simp] def n12 {R : Type} (k : Nat) (G : KT4 R) (v4 v5 v6 v13 : GV) (h : Heap) : Option R := (kbin .mul v5 (.int .i64 48271)).bind fun v16 => (kbin .add v16 v6).bind fun v18 => (kbin .add v18 (.int .i64 11)).bind fun v19 => (kbin .rem v19 (.int .i64 2147483647)).bind fun v20 => G .nrm v4 v20 v6 v13 h
theorem n12_eq {R : Type} (k : Nat) (G : KT4 R) (σ : GS) (h : Heap) : KC k 23 c12 σ h (fun x σ h => G x (σ 4) (σ 5) (σ 6) (σ 13) h) = n12 k G (σ 4) (σ 5) (σ 6) (σ 13) h := by kernel_rfl
@[simp] def n11 {R : Type} (k : Nat) (G : KT4 R) (v4 v5 v6 v13 : GV) (h : Heap) : Option R := n12 k (fun x v4 v5 v6 v13 h => kb 1 x fun x => G x v4 v5 v6 v13 h) v4 v5 v6 v13 h
theorem n11_eq {R : Type} (k : Nat) (G : KT4 R) (σ : GS) (h : Heap) : KC k 23 c11 σ h (fun x σ h => G x (σ 4) (σ 5) (σ 6) (σ 13) h) = n11 k G (σ 4) (σ 5) (σ 6) (σ 13) h := (kblock_eq (a := c12) rfl).trans (n12_eq k (fun x v4 v5 v6 v13 h => kb 1 x fun x => G x v4 v5 v6 v13 h) σ h)
@[simp] def n9 {R : Type} (k : Nat) (G : KT4 R) (v4 v5 v6 v13 : GV) (h : Heap) : Option R := n11 k (fun x v4 v5 v6 v13 h => kx x (n10 k G v4 v5 v6 v13 h) (G x v4 v5 v6 v13 h)) v4 v5 v6 v13 h
theorem n9_eq {R : Type} (k : Nat) (G : KT4 R) (σ : GS) (h : Heap) : KC k 23 c9 σ h (fun x σ h => G x (σ 4) (σ 5) (σ 6) (σ 13) h) = n9 k G (σ 4) (σ 5) (σ 6) (σ 13) h := (kseq (b := c10) rfl (fun σ h => n10_eq k G σ h)).trans (n11_eq k (fun x v4 v5 v6 v13 h => kx x (n10 k G v4 v5 v6 v13 h) (G x v4 v5 v6 v13 h)) σ h)
noncomputable def c13 : Code := cL c8
@[simp] def n8 {R : Type} (k : Nat) (G : KT4 R) (v4 v5 v6 v13 v14 : GV) (h : Heap) : Option R := kcond v14 (n9 k G v4 v5 v6 v13 h) (G (.ext 0) v4 v5 v6 v13 h)
theorem n8_eq0 {R : Type} (k : Nat) (G : KT4 R) (σ : GS) (h : Heap) : KC k 23 c13 σ h (fun x σ h => kx x (n9 k G (σ 4) (σ 5) (σ 6) (σ 13) h) (G x (σ 4) (σ 5) (σ 6) (σ 13) h)) = n8 k G (σ 4) (σ 5) (σ 6) (σ 13) (σ 14) h := by kernel_rfl
theorem n8_eq {R : Type} (k : Nat) (G : KT4 R) (σ : GS) (h : Heap) : KC k 23 c8 σ h (fun x σ h => G x (σ 4) (σ 5) (σ 6) (σ 13) h) = n8 k G (σ 4) (σ 5) (σ 6) (σ 13) (σ 14) h := (kseq (b := c9) rfl (fun σ h => n9_eq k G σ h)).trans (n8_eq0 k G σ h)
noncomputable def c14 : Code := cL c7
@[simp] def n7 {R : Type} (k : Nat) (G : KT4 R) (v4 v5 v6 v13 : GV) (h : Heap) : Option R := (kbin .lss v13 (.int .i64 4)).bind fun v14 => n8 k G v4 v5 v6 v13 v14 h
theorem n7_eq0 {R : Type} (k : Nat) (G : KT4 R) (σ : GS) (h : Heap) : KC k 23 c14 σ h (fun x σ h => kx x (n8 k G (σ 4) (σ 5) (σ 6) (σ 13) (σ 14) h) (G x (σ 4) (σ 5) (σ 6) (σ 13) h)) = n7 k G (σ 4) (σ 5) (σ 6) (σ 13) h := by kernel_rfl
theorem n7_eq {R : Type} (k : Nat) (G : KT4 R) (σ : GS) (h : Heap) : KC k 23 c7 σ h (fun x σ h => G x (σ 4) (σ 5) (σ 6) (σ 13) h) = n7 k G (σ 4) (σ 5) (σ 6) (σ 13) h := (kseq (b := c8) rfl (fun σ h => n8_eq k G σ h)).trans (n7_eq0 k G σ h)
def l6 {R : Type} (k : Nat) (G : KT2 R) : Nat → GV → GV → GV → GV → Heap → Option R
  | 0, _, _, _, _, _ => none
  | r + 1, v4, v5, v6, v13, h => n7 k (fun x v4 v5 v6 v13 h => kx x (l6 k G r v4 v5 v6 v13 h) (G x v4 v5 h)) v4 v5 v6 v13 h
theorem l6_eq {R : Type} (k : Nat) (G : KT2 R) : ∀ (r : Nat) (σ : GS) (h : Heap), kloop (fun σ h K => KC k 23 c7 σ h K) r σ h (fun x σ h => G x (σ 4) (σ 5) h) = l6 k G r (σ 4) (σ 5) (σ 6) (σ 13) h
  | 0, _, _ => rfl
  | r + 1, σ, h => (kloop_eq (fun σ h => l6_eq k G r σ h)).trans (n7_eq k (fun x v4 v5 v6 v13 h => kx x (l6 k G r v4 v5 v6 v13 h) (G x v4 v5 h)) σ h)
@[simp] def n6 {R : Type} (k : Nat) (G : KT2 R) (v4 v5 v6 v13 : GV) (h : Heap) : Option R := l6 k G k v4 v5 v6 v13 h
theorem n6_eq {R : Type} (k : Nat) (G : KT2 R) (σ : GS) (h : Heap) : KC k 23 c6 σ h (fun x σ h => G x (σ 4) (σ 5) h) = n6 k G (σ 4) (σ 5) (σ 6) (σ 13) h := (kloopc_eq (a := c7) rfl).trans (l6_eq k G k σ h)
@[simp] def n5 {R : Type} (k : Nat) (G : KT2 R) (v4 v5 v6 v13 : GV) (h : Heap) : Option R := n6 k (fun x v4 v5 h => kb 0 x fun x => G x v4 v5 h) v4 v5 v6 v13 h
theorem n5_eq {R : Type} (k : Nat) (G : KT2 R) (σ : GS) (h : Heap) : KC k 23 c5 σ h (fun x σ h => G x (σ 4) (σ 5) h) = n5 k G (σ 4) (σ 5) (σ 6) (σ 13) h := (kblock_eq (a := c6) rfl).trans (n6_eq k (fun x v4 v5 h => kb 0 x fun x => G x v4 v5 h) σ h)
noncomputable def c15 : Code := cL c4
@[simp] def n4 {R : Type} (k : Nat) (G : KT2 R) (v4 v5 v6 : GV) (h : Heap) : Option R := n5 k G v4 v5 v6 (.int .i64 0) h
theorem n4_eq0 {R : Type} (k : Nat) (G : KT2 R) (σ : GS) (h : Heap) : KC k 23 c15 σ h (fun x σ h => kx x (n5 k G (σ 4) (σ 5) (σ 6) (σ 13) h) (G x (σ 4) (σ 5) h)) = n4 k G (σ 4) (σ 5) (σ 6) h := by kernel_rfl
theorem n4_eq {R : Type} (k : Nat) (G : KT2 R) (σ : GS) (h : Heap) : KC k 23 c4 σ h (fun x σ h => G x (σ 4) (σ 5) h) = n4 k G (σ 4) (σ 5) (σ 6) h := (kseq (b := c5) rfl (fun σ h => n5_eq k G σ h)).trans (n4_eq0 k G σ h)
@[simp] def n2 {R : Type} (k : Nat) (G : KT1 R) (v4 v5 v6 : GV) (h : Heap) : Option R := n4 k (fun x v4 v5 h => kx x (n3 k G v5 h) (G x v4 h)) v4 v5 v6 h
theorem n2_eq {R : Type} (k : Nat) (G : KT1 R) (σ : GS) (h : Heap) : KC k 23 c2 σ h (fun x σ h => G x (σ 4) h) = n2 k G (σ 4) (σ 5) (σ 6) h := (kseq (b := c3) rfl (fun σ h => n3_eq k G σ h)).trans (n4_eq k (fun x v4 v5 h => kx x (n3 k G v5 h) (G x v4 h)) σ h)
noncomputable def c16 : Code := cL c1
@[simp] def n1 {R : Type} (k : Nat) (G : KT1 R) (v0 v1 v4 : GV) (h : Heap) : Option R := (gmax v0 (.int .i64 0)).bind fun v8 => (kbin .rem v8 (.int .i64 2147483647)).bind fun v9 => (gmax v1 (.int .i64 0)).bind fun v11 => (kbin .rem v11 (.int .i64 2147483647)).bind fun v12 => n2 k G v4 v9 v12 h
theorem n1_eq0 {R : Type} (k : Nat) (G : KT1 R) (σ : GS) (h : Heap) : KC k 23 c16 σ h (fun x σ h => kx x (n2 k G (σ 4) (σ 5) (σ 6) h) (G x (σ 4) h)) = n1 k G (σ 0) (σ 1) (σ 4) h := by kernel_rfl
theorem n1_eq {R : Type} (k : Nat) (G : KT1 R) (σ : GS) (h : Heap) : KC k 23 c1 σ h (fun x σ h => G x (σ 4) h) = n1 k G (σ 0) (σ 1) (σ 4) h := (kseq (b := c2) rfl (fun σ h => n2_eq k G σ h)).trans (n1_eq0 k G σ h)
noncomputable def c17 : Code := cL c0
@[simp] def n0 {R : Type} (k : Nat) (G : KT1 R) (v0 v1 : GV) (h : Heap) : Option R := n1 k G v0 v1 (.int .i64 0) h
theorem n0_eq0 {R : Type} (k : Nat) (G : KT1 R) (σ : GS) (h : Heap) : KC k 23 c17 σ h (fun x σ h => kx x (n1 k G (σ 0) (σ 1) (σ 4) h) (G x (σ 4) h)) = n0 k G (σ 0) (σ 1) h := by kernel_rfl
theorem n0_eq {R : Type} (k : Nat) (G : KT1 R) (σ : GS) (h : Heap) : KC k 23 c0 σ h (fun x σ h => G x (σ 4) h) = n0 k G (σ 0) (σ 1) h := (kseq (b := c1) rfl (fun σ h => n1_eq k G σ h)).trans (n0_eq0 k G σ h)
def run {R : Type} (k : Nat) (a0 : GV) (a1 : GV) (h : Heap) (fin : GV → Heap → Option R) : Option R := n0 k (fun x v4 h => kend x (fin v4 h)) a0 a1 h
theorem run_eq {R : Type} (k : Nat) (a0 : GV) (a1 : GV) (h : Heap) (fin : GV → Heap → Option R) : kfun PP cfg NN HH k fn.impl_Mix [a0, a1] h fin = run k a0 a1 h fin := (kfun_eq (nt := 23) (c := c0) (show PP.funcs[fn.impl_Mix]? = some Tryd.f38 by kernel_rfl) (by kernel_rfl) (by kernel_rfl) (fun x σ h => by cases x <;> kernel_rfl)).trans (n0_eq k (fun x v4 h => kend x (fin v4 h)) _ h)
theorem gives {k : Nat} {a0 : GV} {a1 : GV} {v : GV} (e : run k a0 a1 [] finN = some v) : NN fn.impl_Mix [a0, a1] = some v := nω_of (by kernel_rfl) ((run_eq k a0 a1 [] finN).trans e)
end S.impl_Mix
/-! spec_Mix -/
namespace S.spec_Mix
noncomputable def c0 : Code := bodyOf Tryd.f39
noncomputable def c1 : Code := cR c0
noncomputable def c2 : Code := cR c1
noncomputable def c3 : Code := cR c2
@[simp] def n3 {R : Type} (k : Nat) (G : KT1 R) (v5 : GV) (h : Heap) : Option R := G .ret v5 h
theorem n3_eq {R : Type} (k : Nat) (G : KT1 R) (σ : GS) (h : Heap) : KC k 23 c3 σ h (fun x σ h => G x (σ 4) h) = n3 k G (σ 5) h := by kernel_rfl
noncomputable def c4 : Code := cL c2
noncomputable def c5 : Code := cR c4
noncomputable def c6 : Code := cL c5
noncomputable def c7 : Code := cL c6
noncomputable def c8 : Code := cR c7
noncomputable def c9 : Code := cR c8
@[simp] def n9 {R : Type} (k : Nat) (G : KT4 R) (v1 v4 v5 v6 : GV) (h : Heap) : Option R := (kbin .add v6 (.int .i64 1)).bind fun v13 => G .nrm v1 v4 v5 v13 h
theorem n9_eq {R : Type} (k : Nat) (G : KT4 R) (σ : GS) (h : Heap) : KC k 23 c9 σ h (fun x σ h => G x (σ 1) (σ 4) (σ 5) (σ 6) h) = n9 k G (σ 1) (σ 4) (σ 5) (σ 6) h := by kernel_rfl
noncomputable def c10 : Code := cL c8
noncomputable def c11 : Code := cL c10
@[simp] def n11 {R : Type} (k : Nat) (G : KT4 R) (v1 v4 v5 v6 : GV) (h : Heap) : Option R := (kbin .mul v5 (.int .i64 48271)).bind fun v15 => (kN NN fn.spec_l1Max [(.int .i64 0), v1] h).bind fun v17 => (kbin .rem v17 (.int .i64 2147483647)).bind fun v18 => (kbin .add v15 v18).bind fun v19 => (kbin .add v19 (.int .i64 11)).bind fun v20 => (kbin .rem v20 (.int .i64 2147483647)).bind fun v21 => G .nrm v1 v4 v21 v6 h
theorem n11_eq {R : Type} (k : Nat) (G : KT4 R) (σ : GS) (h : Heap) : KC k 23 c11 σ h (fun x σ h => G x (σ 1) (σ 4) (σ 5) (σ 6) h) = n11 k G (σ 1) (σ 4) (σ 5) (σ 6) h := by kernel_rfl
@[simp] def n10 {R : Type} (k : Nat) (G : KT4 R) (v1 v4 v5 v6 : GV) (h : Heap) : Option R := n11 k (fun x v1 v4 v5 v6 h => kb 1 x fun x => G x v1 v4 v5 v6 h) v1 v4 v5 v6 h
theorem n10_eq {R : Type} (k : Nat) (G : KT4 R) (σ : GS) (h : Heap) : KC k 23 c10 σ h (fun x σ h => G x (σ 1) (σ 4) (σ 5) (σ 6) h) = n10 k G (σ 1) (σ 4) (σ 5) (σ 6) h := (kblock_eq (a := c11) rfl).trans (n11_eq k (fun x v1 v4 v5 v6 h => kb 1 x fun x => G x v1 v4 v5 v6 h) σ h)
@[simp] def n8 {R : Type} (k : Nat) (G : KT4 R) (v1 v4 v5 v6 : GV) (h : Heap) : Option R := n10 k (fun x v1 v4 v5 v6 h => kx x (n9 k G v1 v4 v5 v6 h) (G x v1 v4 v5 v6 h)) v1 v4 v5 v6 h
theorem n8_eq {R : Type} (k : Nat) (G : KT4 R) (σ : GS) (h : Heap) : KC k 23 c8 σ h (fun x σ h => G x (σ 1) (σ 4) (σ 5) (σ 6) h) = n8 k G (σ 1) (σ 4) (σ 5) (σ 6) h := (kseq (b := c9) rfl (fun σ h => n9_eq k G σ h)).trans (n10_eq k (fun x v1 v4 v5 v6 h => kx x (n9 k G v1 v4 v5 v6 h) (G x v1 v4 v5 v6 h)) σ h)
noncomputable def c12 : Code := cL c7
@[simp] def n7 {R : Type} (k : Nat) (G : KT4 R) (v1 v4 v5 v6 : GV) (h : Heap) : Option R := (kbin .lss v6 (.int .i64 4)).bind fun v11 => kcond v11 (n8 k G v1 v4 v5 v6 h) (G (.ext 0) v1 v4 v5 v6 h)
theorem n7_eq0 {R : Type} (k : Nat) (G : KT4 R) (σ : GS) (h : Heap) : KC k 23 c12 σ h (fun x σ h => kx x (n8 k G (σ 1) (σ 4) (σ 5) (σ 6) h) (G x (σ 1) (σ 4) (σ 5) (σ 6) h)) = n7 k G (σ 1) (σ 4) (σ 5) (σ 6) h := by kernel_rfl
theorem n7_eq {R : Type} (k : Nat) (G : KT4 R) (σ : GS) (h : Heap) : KC k 23 c7 σ h (fun x σ h => G x (σ 1) (σ 4) (σ 5) (σ 6) h) = n7 k G (σ 1) (σ 4) (σ 5) (σ 6) h := (kseq (b := c8) rfl (fun σ h => n8_eq k G σ h)).trans (n7_eq0 k G σ h)
def l6 {R : Type} (k : Nat) (G : KT2 R) : Nat → GV → GV → GV → GV → Heap → Option R
  | 0, _, _, _, _, _ => none
  | r + 1, v1, v4, v5, v6, h => n7 k (fun x v1 v4 v5 v6 h => kx x (l6 k G r v1 v4 v5 v6 h) (G x v4 v5 h)) v1 v4 v5 v6 h
theorem l6_eq {R : Type} (k : Nat) (G : KT2 R) : ∀ (r : Nat) (σ : GS) (h : Heap), kloop (fun σ h K => KC k 23 c7 σ h K) r σ h (fun x σ h => G x (σ 4) (σ 5) h) = l6 k G r (σ 1) (σ 4) (σ 5) (σ 6) h
  | 0, _, _ => rfl
  | r + 1, σ, h => (kloop_eq (fun σ h => l6_eq k G r σ h)).trans (n7_eq k (fun x v1 v4 v5 v6 h => kx x (l6 k G r v1 v4 v5 v6 h) (G x v4 v5 h)) σ h)
@[simp] def n6 {R : Type} (k : Nat) (G : KT2 R) (v1 v4 v5 v6 : GV) (h : Heap) : Option R := l6 k G k v1 v4 v5 v6 h
theorem n6_eq {R : Type} (k : Nat) (G : KT2 R) (σ : GS) (h : Heap) : KC k 23 c6 σ h (fun x σ h => G x (σ 4) (σ 5) h) = n6 k G (σ 1) (σ 4) (σ 5) (σ 6) h := (kloopc_eq (a := c7) rfl).trans (l6_eq k G k σ h)
@[simp] def n5 {R : Type} (k : Nat) (G : KT2 R) (v1 v4 v5 v6 : GV) (h : Heap) : Option R := n6 k (fun x v4 v5 h => kb 0 x fun x => G x v4 v5 h) v1 v4 v5 v6 h
theorem n5_eq {R : Type} (k : Nat) (G : KT2 R) (σ : GS) (h : Heap) : KC k 23 c5 σ h (fun x σ h => G x (σ 4) (σ 5) h) = n5 k G (σ 1) (σ 4) (σ 5) (σ 6) h := (kblock_eq (a := c6) rfl).trans (n6_eq k (fun x v4 v5 h => kb 0 x fun x => G x v4 v5 h) σ h)
noncomputable def c13 : Code := cL c4
@[simp] def n4 {R : Type} (k : Nat) (G : KT2 R) (v1 v4 v5 : GV) (h : Heap) : Option R := n5 k G v1 v4 v5 (.int .i64 0) h
theorem n4_eq0 {R : Type} (k : Nat) (G : KT2 R) (σ : GS) (h : Heap) : KC k 23 c13 σ h (fun x σ h => kx x (n5 k G (σ 1) (σ 4) (σ 5) (σ 6) h) (G x (σ 4) (σ 5) h)) = n4 k G (σ 1) (σ 4) (σ 5) h := by kernel_rfl
theorem n4_eq {R : Type} (k : Nat) (G : KT2 R) (σ : GS) (h : Heap) : KC k 23 c4 σ h (fun x σ h => G x (σ 4) (σ 5) h) = n4 k G (σ 1) (σ 4) (σ 5) h := (kseq (b := c5) rfl (fun σ h => n5_eq k G σ h)).trans (n4_eq0 k G σ h)
@[simp] def n2 {R : Type} (k : Nat) (G : KT1 R) (v1 v4 v5 : GV) (h : Heap) : Option R := n4 k (fun x v4 v5 h => kx x (n3 k G v5 h) (G x v4 h)) v1 v4 v5 h
theorem n2_eq {R : Type} (k : Nat) (G : KT1 R) (σ : GS) (h : Heap) : KC k 23 c2 σ h (fun x σ h => G x (σ 4) h) = n2 k G (σ 1) (σ 4) (σ 5) h := (kseq (b := c3) rfl (fun σ h => n3_eq k G σ h)).trans (n4_eq k (fun x v4 v5 h => kx x (n3 k G v5 h) (G x v4 h)) σ h)
noncomputable def c14 : Code := cL c1
@[simp] def n1 {R : Type} (k : Nat) (G : KT1 R) (v0 v1 v4 : GV) (h : Heap) : Option R := (kN NN fn.spec_l1Max [(.int .i64 0), v0] h).bind fun v8 => (kbin .rem v8 (.int .i64 2147483647)).bind fun v9 => n2 k G v1 v4 v9 h
theorem n1_eq0 {R : Type} (k : Nat) (G : KT1 R) (σ : GS) (h : Heap) : KC k 23 c14 σ h (fun x σ h => kx x (n2 k G (σ 1) (σ 4) (σ 5) h) (G x (σ 4) h)) = n1 k G (σ 0) (σ 1) (σ 4) h := by kernel_rfl
theorem n1_eq {R : Type} (k : Nat) (G : KT1 R) (σ : GS) (h : Heap) : KC k 23 c1 σ h (fun x σ h => G x (σ 4) h) = n1 k G (σ 0) (σ 1) (σ 4) h := (kseq (b := c2) rfl (fun σ h => n2_eq k G σ h)).trans (n1_eq0 k G σ h)
noncomputable def c15 : Code := cL c0
@[simp] def n0 {R : Type} (k : Nat) (G : KT1 R) (v0 v1 : GV) (h : Heap) : Option R := n1 k G v0 v1 (.int .i64 0) h
theorem n0_eq0 {R : Type} (k : Nat) (G : KT1 R) (σ : GS) (h : Heap) : KC k 23 c15 σ h (fun x σ h => kx x (n1 k G (σ 0) (σ 1) (σ 4) h) (G x (σ 4) h)) = n0 k G (σ 0) (σ 1) h := by kernel_rfl
theorem n0_eq {R : Type} (k : Nat) (G : KT1 R) (σ : GS) (h : Heap) : KC k 23 c0 σ h (fun x σ h => G x (σ 4) h) = n0 k G (σ 0) (σ 1) h := (kseq (b := c1) rfl (fun σ h => n1_eq k G σ h)).trans (n0_eq0 k G σ h)
def run {R : Type} (k : Nat) (a0 : GV) (a1 : GV) (h : Heap) (fin : GV → Heap → Option R) : Option R := n0 k (fun x v4 h => kend x (fin v4 h)) a0 a1 h
theorem run_eq {R : Type} (k : Nat) (a0 : GV) (a1 : GV) (h : Heap) (fin : GV → Heap → Option R) : kfun PP cfg NN HH k fn.spec_Mix [a0, a1] h fin = run k a0 a1 h fin := (kfun_eq (nt := 23) (c := c0) (show PP.funcs[fn.spec_Mix]? = some Tryd.f39 by kernel_rfl) (by kernel_rfl) (by kernel_rfl) (fun x σ h => by cases x <;> kernel_rfl)).trans (n0_eq k (fun x v4 h => kend x (fin v4 h)) _ h)
theorem gives {k : Nat} {a0 : GV} {a1 : GV} {v : GV} (e : run k a0 a1 [] finN = some v) : NN fn.spec_Mix [a0, a1] = some v := nω_of (by kernel_rfl) ((run_eq k a0 a1 [] finN).trans e)
end S.spec_Mix
/-! impl_Stream -/
namespace S.impl_Stream
noncomputable def c0 : Code := bodyOf Tryd.f40
noncomputable def c1 : Code := cR c0
noncomputable def c2 : Code := cR c1
noncomputable def c3 : Code := cR c2
noncomputable def c4 : Code := cR c3
@[simp] def n4 {R : Type} (k : Nat) (G : KT1 R) (v7 : GV) (h : Heap) : Option R := (kbstr h v7).bind fun v31 => G .ret v31 h
theorem n4_eq {R : Type} (k : Nat) (G : KT1 R) (σ : GS) (h : Heap) : KC k 32 c4 σ h (fun x σ h => G x (σ 6) h) = n4 k G (σ 7) h := by kernel_rfl
noncomputable def c5 : Code := cL c3
noncomputable def c6 : Code := cR c5
noncomputable def c7 : Code := cL c6
noncomputable def c8 : Code := cL c7
noncomputable def c9 : Code := cR c8
noncomputable def c10 : Code := cR c9
noncomputable def c11 : Code := cR c10
@[simp] def n11 {R : Type} (k : Nat) (G : KT5 R) (v6 v7 v8 v18 v19 : GV) (h : Heap) : Option R := (kbin .add v19 (.int .i64 1)).bind fun v29 => G .nrm v6 v7 v8 v18 v29 h
theorem n11_eq {R : Type} (k : Nat) (G : KT5 R) (σ : GS) (h : Heap) : KC k 32 c11 σ h (fun x σ h => G x (σ 6) (σ 7) (σ 8) (σ 18) (σ 19) h) = n11 k G (σ 6) (σ 7) (σ 8) (σ 18) (σ 19) h := by kernel_rfl
noncomputable def c12 : Code := cL c10
noncomputable def c13 : Code := cL c12
@[simp] def n13 {R : Type} (k : Nat) (G : KT5 R) (v6 v7 v8 v18 v19 : GV) (h : Heap) : Option R := (kN NN fn.impl_Mix [v8, (.int .i64 7)] h).bind fun v22 => (kbin .rem v22 (.int .i64 256)).bind fun v25 => (kconvI .u8 v25).bind fun v26 => (gfill (fun i => some (i * 1, 1)) (zeros [(.int .u8 0)] 1) [(0, v26)]).bind fun c => kbs 1 1 c h fun v27 h => (kapp [(.int .u8 0)] 1 1 v7 v27 h).bind fun r => kr r fun v28 h => G .nrm v6 v28 v22 v18 v19 h
theorem n13_eq {R : Type} (k : Nat) (G : KT5 R) (σ : GS) (h : Heap) : KC k 32 c13 σ h (fun x σ h => G x (σ 6) (σ 7) (σ 8) (σ 18) (σ 19) h) = n13 k G (σ 6) (σ 7) (σ 8) (σ 18) (σ 19) h := by kernel_rfl
@[simp] def n12 {R : Type} (k : Nat) (G : KT5 R) (v6 v7 v8 v18 v19 : GV) (h : Heap) : Option R := n13 k (fun x v6 v7 v8 v18 v19 h => kb 1 x fun x => G x v6 v7 v8 v18 v19 h) v6 v7 v8 v18 v19 h
theorem n12_eq {R : Type} (k : Nat) (G : KT5 R) (σ : GS) (h : Heap) : KC k 32 c12 σ h (fun x σ h => G x (σ 6) (σ 7) (σ 8) (σ 18) (σ 19) h) = n12 k G (σ 6) (σ 7) (σ 8) (σ 18) (σ 19) h := (kblock_eq (a := c13) rfl).trans (n13_eq k (fun x v6 v7 v8 v18 v19 h => kb 1 x fun x => G x v6 v7 v8 v18 v19 h) σ h)
@[simp] def n10 {R : Type} (k : Nat) (G : KT5 R) (v6 v7 v8 v18 v19 : GV) (h : Heap) : Option R := n12 k (fun x v6 v7 v8 v18 v19 h => kx x (n11 k G v6 v7 v8 v18 v19 h) (G x v6 v7 v8 v18 v19 h)) v6 v7 v8 v18 v19 h
theorem n10_eq {R : Type} (k : Nat) (G : KT5 R) (σ : GS) (h : Heap) : KC k 32 c10 σ h (fun x σ h => G x (σ 6) (σ 7) (σ 8) (σ 18) (σ 19) h) = n10 k G (σ 6) (σ 7) (σ 8) (σ 18) (σ 19) h := (kseq (b := c11) rfl (fun σ h => n11_eq k G σ h)).trans (n12_eq k (fun x v6 v7 v8 v18 v19 h => kx x (n11 k G v6 v7 v8 v18 v19 h) (G x v6 v7 v8 v18 v19 h)) σ h)
noncomputable def c14 : Code := cL c9
@[simp] def n9 {R : Type} (k : Nat) (G : KT5 R) (v6 v7 v8 v18 v19 v20 : GV) (h : Heap) : Option R := kcond v20 (n10 k G v6 v7 v8 v18 v19 h) (G (.ext 0) v6 v7 v8 v18 v19 h)
theorem n9_eq0 {R : Type} (k : Nat) (G : KT5 R) (σ : GS) (h : Heap) : KC k 32 c14 σ h (fun x σ h => kx x (n10 k G (σ 6) (σ 7) (σ 8) (σ 18) (σ 19) h) (G x (σ 6) (σ 7) (σ 8) (σ 18) (σ 19) h)) = n9 k G (σ 6) (σ 7) (σ 8) (σ 18) (σ 19) (σ 20) h := by kernel_rfl
theorem n9_eq {R : Type} (k : Nat) (G : KT5 R) (σ : GS) (h : Heap) : KC k 32 c9 σ h (fun x σ h => G x (σ 6) (σ 7) (σ 8) (σ 18) (σ 19) h) = n9 k G (σ 6) (σ 7) (σ 8) (σ 18) (σ 19) (σ 20) h := (kseq (b := c10) rfl (fun σ h => n10_eq k G σ h)).trans (n9_eq0 k G σ h)
noncomputable def c15 : Code := cL c8
@[simp] def n8 {R : Type} (k : Nat) (G : KT5 R) (v6 v7 v8 v18 v19 : GV) (h : Heap) : Option R := (kbin .lss v19 v18).bind fun v20 => n9 k G v6 v7 v8 v18 v19 v20 h
theorem n8_eq0 {R : Type} (k : Nat) (G : KT5 R) (σ : GS) (h : Heap) : KC k 32 c15 σ h (fun x σ h => kx x (n9 k G (σ 6) (σ 7) (σ 8) (σ 18) (σ 19) (σ 20) h) (G x (σ 6) (σ 7) (σ 8) (σ 18) (σ 19) h)) = n8 k G (σ 6) (σ 7) (σ 8) (σ 18) (σ 19) h := by kernel_rfl
theorem n8_eq {R : Type} (k : Nat) (G : KT5 R) (σ : GS) (h : Heap) : KC k 32 c8 σ h (fun x σ h => G x (σ 6) (σ 7) (σ 8) (σ 18) (σ 19) h) = n8 k G (σ 6) (σ 7) (σ 8) (σ 18) (σ 19) h := (kseq (b := c9) rfl (fun σ h => n9_eq k G σ h)).trans (n8_eq0 k G σ h)
def l7 {R : Type} (k : Nat) (G : KT2 R) : Nat → GV → GV → GV → GV → GV → Heap → Option R
  | 0, _, _, _, _, _, _ => none
  | r + 1, v6, v7, v8, v18, v19, h => n8 k (fun x v6 v7 v8 v18 v19 h => kx x (l7 k G r v6 v7 v8 v18 v19 h) (G x v6 v7 h)) v6 v7 v8 v18 v19 h
theorem l7_eq {R : Type} (k : Nat) (G : KT2 R) : ∀ (r : Nat) (σ : GS) (h : Heap), kloop (fun σ h K => KC k 32 c8 σ h K) r σ h (fun x σ h => G x (σ 6) (σ 7) h) = l7 k G r (σ 6) (σ 7) (σ 8) (σ 18) (σ 19) h
  | 0, _, _ => rfl
  | r + 1, σ, h => (kloop_eq (fun σ h => l7_eq k G r σ h)).trans (n8_eq k (fun x v6 v7 v8 v18 v19 h => kx x (l7 k G r v6 v7 v8 v18 v19 h) (G x v6 v7 h)) σ h)
@[simp] def n7 {R : Type} (k : Nat) (G : KT2 R) (v6 v7 v8 v18 v19 : GV) (h : Heap) : Option R := l7 k G k v6 v7 v8 v18 v19 h
theorem n7_eq {R : Type} (k : Nat) (G : KT2 R) (σ : GS) (h : Heap) : KC k 32 c7 σ h (fun x σ h => G x (σ 6) (σ 7) h) = n7 k G (σ 6) (σ 7) (σ 8) (σ 18) (σ 19) h := (kloopc_eq (a := c8) rfl).trans (l7_eq k G k σ h)
@[simp] def n6 {R : Type} (k : Nat) (G : KT2 R) (v6 v7 v8 v18 v19 : GV) (h : Heap) : Option R := n7 k (fun x v6 v7 h => kb 0 x fun x => G x v6 v7 h) v6 v7 v8 v18 v19 h
theorem n6_eq {R : Type} (k : Nat) (G : KT2 R) (σ : GS) (h : Heap) : KC k 32 c6 σ h (fun x σ h => G x (σ 6) (σ 7) h) = n6 k G (σ 6) (σ 7) (σ 8) (σ 18) (σ 19) h := (kblock_eq (a := c7) rfl).trans (n7_eq k (fun x v6 v7 h => kb 0 x fun x => G x v6 v7 h) σ h)
noncomputable def c16 : Code := cL c5
@[simp] def n5 {R : Type} (k : Nat) (G : KT2 R) (v2 v6 v7 v8 : GV) (h : Heap) : Option R := n6 k G v6 v7 v8 v2 (.int .i64 0) h
theorem n5_eq0 {R : Type} (k : Nat) (G : KT2 R) (σ : GS) (h : Heap) : KC k 32 c16 σ h (fun x σ h => kx x (n6 k G (σ 6) (σ 7) (σ 8) (σ 18) (σ 19) h) (G x (σ 6) (σ 7) h)) = n5 k G (σ 2) (σ 6) (σ 7) (σ 8) h := by kernel_rfl
theorem n5_eq {R : Type} (k : Nat) (G : KT2 R) (σ : GS) (h : Heap) : KC k 32 c5 σ h (fun x σ h => G x (σ 6) (σ 7) h) = n5 k G (σ 2) (σ 6) (σ 7) (σ 8) h := (kseq (b := c6) rfl (fun σ h => n6_eq k G σ h)).trans (n5_eq0 k G σ h)
@[simp] def n3 {R : Type} (k : Nat) (G : KT1 R) (v2 v6 v7 v8 : GV) (h : Heap) : Option R := n5 k (fun x v6 v7 h => kx x (n4 k G v7 h) (G x v6 h)) v2 v6 v7 v8 h
theorem n3_eq {R : Type} (k : Nat) (G : KT1 R) (σ : GS) (h : Heap) : KC k 32 c3 σ h (fun x σ h => G x (σ 6) h) = n3 k G (σ 2) (σ 6) (σ 7) (σ 8) h := (kseq (b := c4) rfl (fun σ h => n4_eq k G σ h)).trans (n5_eq k (fun x v6 v7 h => kx x (n4 k G v7 h) (G x v6 h)) σ h)
noncomputable def c17 : Code := cL c2
@[simp] def n2 {R : Type} (k : Nat) (G : KT1 R) (v0 v1 v2 v6 : GV) (h : Heap) : Option R := (kN NN fn.impl_begun [(.int .i64 1), v0, v1] h).bind fun v17 => n3 k G v2 v6 .emp v17 h
theorem n2_eq0 {R : Type} (k : Nat) (G : KT1 R) (σ : GS) (h : Heap) : KC k 32 c17 σ h (fun x σ h => kx x (n3 k G (σ 2) (σ 6) (σ 7) (σ 8) h) (G x (σ 6) h)) = n2 k G (σ 0) (σ 1) (σ 2) (σ 6) h := by kernel_rfl
theorem n2_eq {R : Type} (k : Nat) (G : KT1 R) (σ : GS) (h : Heap) : KC k 32 c2 σ h (fun x σ h => G x (σ 6) h) = n2 k G (σ 0) (σ 1) (σ 2) (σ 6) h := (kseq (b := c3) rfl (fun σ h => n3_eq k G σ h)).trans (n2_eq0 k G σ h)
noncomputable def c18 : Code := cL c1
@[simp] def n1 {R : Type} (k : Nat) (G : KT1 R) (v0 v1 v2 v6 : GV) (h : Heap) : Option R := (kN NN fn.impl_isSeal [v0, v1, v2] h).bind fun v12 => (kun .not v12).bind fun v13 => kcond v13 (G .ret (.str { data := #[] }) h) (n2 k G v0 v1 v2 v6 h)
theorem n1_eq0 {R : Type} (k : Nat) (G : KT1 R) (σ : GS) (h : Heap) : KC k 32 c18 σ h (fun x σ h => kx x (n2 k G (σ 0) (σ 1) (σ 2) (σ 6) h) (G x (σ 6) h)) = n1 k G (σ 0) (σ 1) (σ 2) (σ 6) h := by kernel_rfl
theorem n1_eq {R : Type} (k : Nat) (G : KT1 R) (σ : GS) (h : Heap) : KC k 32 c1 σ h (fun x σ h => G x (σ 6) h) = n1 k G (σ 0) (σ 1) (σ 2) (σ 6) h := (kseq (b := c2) rfl (fun σ h => n2_eq k G σ h)).trans (n1_eq0 k G σ h)
noncomputable def c19 : Code := cL c0
@[simp] def n0 {R : Type} (k : Nat) (G : KT1 R) (v0 v1 v2 : GV) (h : Heap) : Option R := n1 k G v0 v1 v2 (.str { data := #[] }) h
theorem n0_eq0 {R : Type} (k : Nat) (G : KT1 R) (σ : GS) (h : Heap) : KC k 32 c19 σ h (fun x σ h => kx x (n1 k G (σ 0) (σ 1) (σ 2) (σ 6) h) (G x (σ 6) h)) = n0 k G (σ 0) (σ 1) (σ 2) h := by kernel_rfl
theorem n0_eq {R : Type} (k : Nat) (G : KT1 R) (σ : GS) (h : Heap) : KC k 32 c0 σ h (fun x σ h => G x (σ 6) h) = n0 k G (σ 0) (σ 1) (σ 2) h := (kseq (b := c1) rfl (fun σ h => n1_eq k G σ h)).trans (n0_eq0 k G σ h)
def run {R : Type} (k : Nat) (a0 : GV) (a1 : GV) (a2 : GV) (h : Heap) (fin : GV → Heap → Option R) : Option R := n0 k (fun x v6 h => kend x (fin v6 h)) a0 a1 a2 h
theorem run_eq {R : Type} (k : Nat) (a0 : GV) (a1 : GV) (a2 : GV) (h : Heap) (fin : GV → Heap → Option R) : kfun PP cfg NN HH k fn.impl_Stream [a0, a1, a2] h fin = run k a0 a1 a2 h fin := (kfun_eq (nt := 32) (c := c0) (show PP.funcs[fn.impl_Stream]? = some Tryd.f40 by kernel_rfl) (by kernel_rfl) (by kernel_rfl) (fun x σ h => by cases x <;> kernel_rfl)).trans (n0_eq k (fun x v6 h => kend x (fin v6 h)) _ h)
theorem gives {k : Nat} {a0 : GV} {a1 : GV} {a2 : GV} {v : GV} (e : run k a0 a1 a2 [] finN = some v) : NN fn.impl_Stream [a0, a1, a2] = some v := nω_of (by kernel_rfl) ((run_eq k a0 a1 a2 [] finN).trans e)
end S.impl_Stream
/-! spec_Stream -/
namespace S.spec_Stream
noncomputable def c0 : Code := bodyOf Tryd.f41
noncomputable def c1 : Code := cR c0
noncomputable def c2 : Code := cR c1
noncomputable def c3 : Code := cR c2
noncomputable def c4 : Code := cR c3
noncomputable def c5 : Code := cR c4
@[simp] def n5 {R : Type} (k : Nat) (G : KT1 R) (v7 : GV) (h : Heap) : Option R := (kbstr h v7).bind fun v36 => G .ret v36 h
theorem n5_eq {R : Type} (k : Nat) (G : KT1 R) (σ : GS) (h : Heap) : KC k 37 c5 σ h (fun x σ h => G x (σ 6) h) = n5 k G (σ 7) h := by kernel_rfl
noncomputable def c6 : Code := cL c4
noncomputable def c7 : Code := cL c6
noncomputable def c8 : Code := cL c7
noncomputable def c9 : Code := cR c8
noncomputable def c10 : Code := cR c9
@[simp] def n10 {R : Type} (k : Nat) (G : KT4 R) (v2 v6 v7 v8 : GV) (h : Heap) : Option R := (kbin .sub v2 (.int .i64 1)).bind fun v26 => G .nrm v26 v6 v7 v8 h
theorem n10_eq {R : Type} (k : Nat) (G : KT4 R) (σ : GS) (h : Heap) : KC k 37 c10 σ h (fun x σ h => G x (σ 2) (σ 6) (σ 7) (σ 8) h) = n10 k G (σ 2) (σ 6) (σ 7) (σ 8) h := by kernel_rfl
noncomputable def c11 : Code := cL c9
noncomputable def c12 : Code := cL c11
@[simp] def n12 {R : Type} (k : Nat) (G : KT4 R) (v2 v6 v7 v8 : GV) (h : Heap) : Option R := (kN NN fn.spec_Mix [v8, (.int .i64 7)] h).bind fun v28 => (kbin .rem v28 (.int .i64 256)).bind fun v31 => (kconvI .u8 v31).bind fun v32 => (gfill (fun i => some (i * 1, 1)) (zeros [(.int .u8 0)] 1) [(0, v32)]).bind fun c => kbs 1 1 c h fun v33 h => (kapp [(.int .u8 0)] 1 1 v7 v33 h).bind fun r => kr r fun v34 h => G .nrm v2 v6 v34 v28 h
theorem n12_eq {R : Type} (k : Nat) (G : KT4 R) (σ : GS) (h : Heap) : KC k 37 c12 σ h (fun x σ h => G x (σ 2) (σ 6) (σ 7) (σ 8) h) = n12 k G (σ 2) (σ 6) (σ 7) (σ 8) h := by kernel_rfl
@[simp] def n11 {R : Type} (k : Nat) (G : KT4 R) (v2 v6 v7 v8 : GV) (h : Heap) : Option R := n12 k (fun x v2 v6 v7 v8 h => kb 1 x fun x => G x v2 v6 v7 v8 h) v2 v6 v7 v8 h
theorem n11_eq {R : Type} (k : Nat) (G : KT4 R) (σ : GS) (h : Heap) : KC k 37 c11 σ h (fun x σ h => G x (σ 2) (σ 6) (σ 7) (σ 8) h) = n11 k G (σ 2) (σ 6) (σ 7) (σ 8) h := (kblock_eq (a := c12) rfl).trans (n12_eq k (fun x v2 v6 v7 v8 h => kb 1 x fun x => G x v2 v6 v7 v8 h) σ h)
@[simp] def n9 {R : Type} (k : Nat) (G : KT4 R) (v2 v6 v7 v8 : GV) (h : Heap) : Option R := n11 k (fun x v2 v6 v7 v8 h => kx x (n10 k G v2 v6 v7 v8 h) (G x v2 v6 v7 v8 h)) v2 v6 v7 v8 h
theorem n9_eq {R : Type} (k : Nat) (G : KT4 R) (σ : GS) (h : Heap) : KC k 37 c9 σ h (fun x σ h => G x (σ 2) (σ 6) (σ 7) (σ 8) h) = n9 k G (σ 2) (σ 6) (σ 7) (σ 8) h := (kseq (b := c10) rfl (fun σ h => n10_eq k G σ h)).trans (n11_eq k (fun x v2 v6 v7 v8 h => kx x (n10 k G v2 v6 v7 v8 h) (G x v2 v6 v7 v8 h)) σ h)
noncomputable def c13 : Code := cL c8
@[simp] def n8 {R : Type} (k : Nat) (G : KT4 R) (v2 v6 v7 v8 : GV) (h : Heap) : Option R := (kbin .gtr v2 (.int .i64 0)).bind fun v24 => kcond v24 (n9 k G v2 v6 v7 v8 h) (G (.ext 0) v2 v6 v7 v8 h)
theorem n8_eq0 {R : Type} (k : Nat) (G : KT4 R) (σ : GS) (h : Heap) : KC k 37 c13 σ h (fun x σ h => kx x (n9 k G (σ 2) (σ 6) (σ 7) (σ 8) h) (G x (σ 2) (σ 6) (σ 7) (σ 8) h)) = n8 k G (σ 2) (σ 6) (σ 7) (σ 8) h := by kernel_rfl
theorem n8_eq {R : Type} (k : Nat) (G : KT4 R) (σ : GS) (h : Heap) : KC k 37 c8 σ h (fun x σ h => G x (σ 2) (σ 6) (σ 7) (σ 8) h) = n8 k G (σ 2) (σ 6) (σ 7) (σ 8) h := (kseq (b := c9) rfl (fun σ h => n9_eq k G σ h)).trans (n8_eq0 k G σ h)
def l7 {R : Type} (k : Nat) (G : KT2 R) : Nat → GV → GV → GV → GV → Heap → Option R
  | 0, _, _, _, _, _ => none
  | r + 1, v2, v6, v7, v8, h => n8 k (fun x v2 v6 v7 v8 h => kx x (l7 k G r v2 v6 v7 v8 h) (G x v6 v7 h)) v2 v6 v7 v8 h
theorem l7_eq {R : Type} (k : Nat) (G : KT2 R) : ∀ (r : Nat) (σ : GS) (h : Heap), kloop (fun σ h K => KC k 37 c8 σ h K) r σ h (fun x σ h => G x (σ 6) (σ 7) h) = l7 k G r (σ 2) (σ 6) (σ 7) (σ 8) h
  | 0, _, _ => rfl
  | r + 1, σ, h => (kloop_eq (fun σ h => l7_eq k G r σ h)).trans (n8_eq k (fun x v2 v6 v7 v8 h => kx x (l7 k G r v2 v6 v7 v8 h) (G x v6 v7 h)) σ h)
@[simp] def n7 {R : Type} (k : Nat) (G : KT2 R) (v2 v6 v7 v8 : GV) (h : Heap) : Option R := l7 k G k v2 v6 v7 v8 h
theorem n7_eq {R : Type} (k : Nat) (G : KT2 R) (σ : GS) (h : Heap) : KC k 37 c7 σ h (fun x σ h => G x (σ 6) (σ 7) h) = n7 k G (σ 2) (σ 6) (σ 7) (σ 8) h := (kloopc_eq (a := c8) rfl).trans (l7_eq k G k σ h)
@[simp] def n6 {R : Type} (k : Nat) (G : KT2 R) (v2 v6 v7 v8 : GV) (h : Heap) : Option R := n7 k (fun x v6 v7 h => kb 0 x fun x => G x v6 v7 h) v2 v6 v7 v8 h
theorem n6_eq {R : Type} (k : Nat) (G : KT2 R) (σ : GS) (h : Heap) : KC k 37 c6 σ h (fun x σ h => G x (σ 6) (σ 7) h) = n6 k G (σ 2) (σ 6) (σ 7) (σ 8) h := (kblock_eq (a := c7) rfl).trans (n7_eq k (fun x v6 v7 h => kb 0 x fun x => G x v6 v7 h) σ h)
@[simp] def n4 {R : Type} (k : Nat) (G : KT1 R) (v2 v6 v7 v8 : GV) (h : Heap) : Option R := n6 k (fun x v6 v7 h => kx x (n5 k G v7 h) (G x v6 h)) v2 v6 v7 v8 h
theorem n4_eq {R : Type} (k : Nat) (G : KT1 R) (σ : GS) (h : Heap) : KC k 37 c4 σ h (fun x σ h => G x (σ 6) h) = n4 k G (σ 2) (σ 6) (σ 7) (σ 8) h := (kseq (b := c5) rfl (fun σ h => n5_eq k G σ h)).trans (n6_eq k (fun x v6 v7 h => kx x (n5 k G v7 h) (G x v6 h)) σ h)
noncomputable def c14 : Code := cL c3
@[simp] def n3 {R : Type} (k : Nat) (G : KT1 R) (v0 v1 v2 v6 v7 : GV) (h : Heap) : Option R := (kN NN fn.spec_l14Begin [v0, v1, (.int .i64 1)] h).bind fun v22 => n4 k G v2 v6 v7 v22 h
theorem n3_eq0 {R : Type} (k : Nat) (G : KT1 R) (σ : GS) (h : Heap) : KC k 37 c14 σ h (fun x σ h => kx x (n4 k G (σ 2) (σ 6) (σ 7) (σ 8) h) (G x (σ 6) h)) = n3 k G (σ 0) (σ 1) (σ 2) (σ 6) (σ 7) h := by kernel_rfl
theorem n3_eq {R : Type} (k : Nat) (G : KT1 R) (σ : GS) (h : Heap) : KC k 37 c3 σ h (fun x σ h => G x (σ 6) h) = n3 k G (σ 0) (σ 1) (σ 2) (σ 6) (σ 7) h := (kseq (b := c4) rfl (fun σ h => n4_eq k G σ h)).trans (n3_eq0 k G σ h)
noncomputable def c15 : Code := cL c2
@[simp] def n2 {R : Type} (k : Nat) (G : KT1 R) (v0 v1 v2 v6 : GV) (h : Heap) : Option R := n3 k G v0 v1 v2 v6 .emp h
theorem n2_eq0 {R : Type} (k : Nat) (G : KT1 R) (σ : GS) (h : Heap) : KC k 37 c15 σ h (fun x σ h => kx x (n3 k G (σ 0) (σ 1) (σ 2) (σ 6) (σ 7) h) (G x (σ 6) h)) = n2 k G (σ 0) (σ 1) (σ 2) (σ 6) h := by kernel_rfl
theorem n2_eq {R : Type} (k : Nat) (G : KT1 R) (σ : GS) (h : Heap) : KC k 37 c2 σ h (fun x σ h => G x (σ 6) h) = n2 k G (σ 0) (σ 1) (σ 2) (σ 6) h := (kseq (b := c3) rfl (fun σ h => n3_eq k G σ h)).trans (n2_eq0 k G σ h)
noncomputable def c16 : Code := cL c1
noncomputable def c17 : Code := cR c16
@[simp] def n17 {R : Type} (k : Nat) (G : KT4 R) (v0 v1 v2 v6 v18 : GV) (h : Heap) : Option R := kcond v18 (G .ret v0 v1 v2 (.str { data := #[] }) h) (G .nrm v0 v1 v2 v6 h)
theorem n17_eq {R : Type} (k : Nat) (G : KT4 R) (σ : GS) (h : Heap) : KC k 37 c17 σ h (fun x σ h => G x (σ 0) (σ 1) (σ 2) (σ 6) h) = n17 k G (σ 0) (σ 1) (σ 2) (σ 6) (σ 18) h := by kernel_rfl
noncomputable def c18 : Code := cL c16
noncomputable def o18 : Array Oper := cO c18
@[simp] def g18_2 {R : Type} (k : Nat) (G : KT5 R) (v0 v1 v2 v6 v12 v17 : GV) (h : Heap) : Option R := (kpick v12 (.bool true) v17).bind fun v18 => G .nrm v0 v1 v2 v6 v18 h
theorem g18_2_eq {R : Type} (k : Nat) (G : KT5 R) (σ : GS) (h : Heap) : kgroups PP cfg NN HH 37 o18 [(none, [9])] σ h (fun σ h => G .nrm (σ 0) (σ 1) (σ 2) (σ 6) (σ 18) h) = g18_2 k G (σ 0) (σ 1) (σ 2) (σ 6) (σ 12) (σ 17) h := by kernel_rfl
@[simp] def g18_1 {R : Type} (k : Nat) (G : KT5 R) (v0 v1 v2 v6 v12 : GV) (h : Heap) : Option R := bif tr false v12 then (kN NN fn.spec_l14Told [v0, v1, v2] h).bind fun v16 => (kun .not v16).bind fun v17 => g18_2 k G v0 v1 v2 v6 v12 v17 h else g18_2 k G v0 v1 v2 v6 v12 .un h
theorem g18_1_eq0 {R : Type} (k : Nat) (G : KT5 R) (σ : GS) (h : Heap) : kgroup1 PP cfg NN HH 37 o18 (some (3, false), [4, 5, 6, 7, 8]) σ h (fun σ h => g18_2 k G (σ 0) (σ 1) (σ 2) (σ 6) (σ 12) (σ 17) h) = g18_1 k G (σ 0) (σ 1) (σ 2) (σ 6) (σ 12) h := by kernel_rfl
theorem g18_1_eq {R : Type} (k : Nat) (G : KT5 R) (σ : GS) (h : Heap) : kgroups PP cfg NN HH 37 o18 [(some (3, false), [4, 5, 6, 7, 8]), (none, [9])] σ h (fun σ h => G .nrm (σ 0) (σ 1) (σ 2) (σ 6) (σ 18) h) = g18_1 k G (σ 0) (σ 1) (σ 2) (σ 6) (σ 12) h := (kgroups_cons (fun σ h => g18_2_eq k G σ h)).trans (g18_1_eq0 k G σ h)
@[simp] def g18_0 {R : Type} (k : Nat) (G : KT5 R) (v0 v1 v2 v6 : GV) (h : Heap) : Option R := (kN NN fn.spec_l1In [v2, (.int .i64 0), (.int .i64 4000)] h).bind fun v10 => (kun .not v10).bind fun v11 => g18_1 k G v0 v1 v2 v6 v11 h
theorem g18_0_eq0 {R : Type} (k : Nat) (G : KT5 R) (σ : GS) (h : Heap) : kgroup1 PP cfg NN HH 37 o18 (none, [0, 1, 2, 3]) σ h (fun σ h => g18_1 k G (σ 0) (σ 1) (σ 2) (σ 6) (σ 12) h) = g18_0 k G (σ 0) (σ 1) (σ 2) (σ 6) h := by kernel_rfl
theorem g18_0_eq {R : Type} (k : Nat) (G : KT5 R) (σ : GS) (h : Heap) : kgroups PP cfg NN HH 37 o18 [(none, [0, 1, 2, 3]), (some (3, false), [4, 5, 6, 7, 8]), (none, [9])] σ h (fun σ h => G .nrm (σ 0) (σ 1) (σ 2) (σ 6) (σ 18) h) = g18_0 k G (σ 0) (σ 1) (σ 2) (σ 6) h := (kgroups_cons (fun σ h => g18_1_eq k G σ h)).trans (g18_0_eq0 k G σ h)
@[simp] def n18 {R : Type} (k : Nat) (G : KT5 R) (v0 v1 v2 v6 : GV) (h : Heap) : Option R := g18_0 k G v0 v1 v2 v6 h
theorem n18_eq {R : Type} (k : Nat) (G : KT5 R) (σ : GS) (h : Heap) : KC k 37 c18 σ h (fun x σ h => G x (σ 0) (σ 1) (σ 2) (σ 6) (σ 18) h) = n18 k G (σ 0) (σ 1) (σ 2) (σ 6) h := (kregion_eq (id := 1) (draw := false) (ops := o18) (gs := [(none, [0, 1, 2, 3]), (some (3, false), [4, 5, 6, 7, 8]), (none, [9])]) (by kernel_rfl) (by kernel_rfl) (by kernel_rfl)).trans (g18_0_eq k G σ h)
@[simp] def n16 {R : Type} (k : Nat) (G : KT4 R) (v0 v1 v2 v6 : GV) (h : Heap) : Option R := n18 k (fun x v0 v1 v2 v6 v18 h => kx x (n17 k G v0 v1 v2 v6 v18 h) (G x v0 v1 v2 v6 h)) v0 v1 v2 v6 h
theorem n16_eq {R : Type} (k : Nat) (G : KT4 R) (σ : GS) (h : Heap) : KC k 37 c16 σ h (fun x σ h => G x (σ 0) (σ 1) (σ 2) (σ 6) h) = n16 k G (σ 0) (σ 1) (σ 2) (σ 6) h := (kseq (b := c17) rfl (fun σ h => n17_eq k G σ h)).trans (n18_eq k (fun x v0 v1 v2 v6 v18 h => kx x (n17 k G v0 v1 v2 v6 v18 h) (G x v0 v1 v2 v6 h)) σ h)
@[simp] def n1 {R : Type} (k : Nat) (G : KT1 R) (v0 v1 v2 v6 : GV) (h : Heap) : Option R := n16 k (fun x v0 v1 v2 v6 h => kx x (n2 k G v0 v1 v2 v6 h) (G x v6 h)) v0 v1 v2 v6 h
theorem n1_eq {R : Type} (k : Nat) (G : KT1 R) (σ : GS) (h : Heap) : KC k 37 c1 σ h (fun x σ h => G x (σ 6) h) = n1 k G (σ 0) (σ 1) (σ 2) (σ 6) h := (kseq (b := c2) rfl (fun σ h => n2_eq k G σ h)).trans (n16_eq k (fun x v0 v1 v2 v6 h => kx x (n2 k G v0 v1 v2 v6 h) (G x v6 h)) σ h)
noncomputable def c19 : Code := cL c0
@[simp] def n0 {R : Type} (k : Nat) (G : KT1 R) (v0 v1 v2 : GV) (h : Heap) : Option R := n1 k G v0 v1 v2 (.str { data := #[] }) h
theorem n0_eq0 {R : Type} (k : Nat) (G : KT1 R) (σ : GS) (h : Heap) : KC k 37 c19 σ h (fun x σ h => kx x (n1 k G (σ 0) (σ 1) (σ 2) (σ 6) h) (G x (σ 6) h)) = n0 k G (σ 0) (σ 1) (σ 2) h := by kernel_rfl
theorem n0_eq {R : Type} (k : Nat) (G : KT1 R) (σ : GS) (h : Heap) : KC k 37 c0 σ h (fun x σ h => G x (σ 6) h) = n0 k G (σ 0) (σ 1) (σ 2) h := (kseq (b := c1) rfl (fun σ h => n1_eq k G σ h)).trans (n0_eq0 k G σ h)
def run {R : Type} (k : Nat) (a0 : GV) (a1 : GV) (a2 : GV) (h : Heap) (fin : GV → Heap → Option R) : Option R := n0 k (fun x v6 h => kend x (fin v6 h)) a0 a1 a2 h
theorem run_eq {R : Type} (k : Nat) (a0 : GV) (a1 : GV) (a2 : GV) (h : Heap) (fin : GV → Heap → Option R) : kfun PP cfg NN HH k fn.spec_Stream [a0, a1, a2] h fin = run k a0 a1 a2 h fin := (kfun_eq (nt := 37) (c := c0) (show PP.funcs[fn.spec_Stream]? = some Tryd.f41 by kernel_rfl) (by kernel_rfl) (by kernel_rfl) (fun x σ h => by cases x <;> kernel_rfl)).trans (n0_eq k (fun x v6 h => kend x (fin v6 h)) _ h)
theorem gives {k : Nat} {a0 : GV} {a1 : GV} {a2 : GV} {v : GV} (e : run k a0 a1 a2 [] finN = some v) : NN fn.spec_Stream [a0, a1, a2] = some v := nω_of (by kernel_rfl) ((run_eq k a0 a1 a2 [] finN).trans e)
end S.spec_Stream
/-! impl_Sum -/
namespace S.impl_Sum
noncomputable def c0 : Code := bodyOf Tryd.f50
noncomputable def c1 : Code := cR c0
noncomputable def c2 : Code := cR c1
noncomputable def c3 : Code := cR c2
@[simp] def n3 {R : Type} (k : Nat) (G : KT1 R) (v3 : GV) (h : Heap) : Option R := G .ret v3 h
theorem n3_eq {R : Type} (k : Nat) (G : KT1 R) (σ : GS) (h : Heap) : KC k 18 c3 σ h (fun x σ h => G x (σ 2) h) = n3 k G (σ 3) h := by kernel_rfl
noncomputable def c4 : Code := cL c2
noncomputable def c5 : Code := cR c4
noncomputable def c6 : Code := cL c5
noncomputable def c7 : Code := cL c6
noncomputable def c8 : Code := cR c7
noncomputable def c9 : Code := cR c8
noncomputable def c10 : Code := cR c9
@[simp] def n10 {R : Type} (k : Nat) (G : KT5 R) (v0 v2 v3 v6 v7 : GV) (h : Heap) : Option R := (kbin .add v7 (.int .i64 1)).bind fun v16 => G .nrm v0 v2 v3 v6 v16 h
theorem n10_eq {R : Type} (k : Nat) (G : KT5 R) (σ : GS) (h : Heap) : KC k 18 c10 σ h (fun x σ h => G x (σ 0) (σ 2) (σ 3) (σ 6) (σ 7) h) = n10 k G (σ 0) (σ 2) (σ 3) (σ 6) (σ 7) h := by kernel_rfl
noncomputable def c11 : Code := cL c9
noncomputable def c12 : Code := cL c11
@[simp] def n12 {R : Type} (k : Nat) (G : KT5 R) (v0 v2 v3 v6 v7 : GV) (h : Heap) : Option R := (kbyte v0 v7).bind fun v13 => (kconvI .i64 v13).bind fun v14 => (kN NN fn.impl_Mix [v3, v14] h).bind fun v15 => G .nrm v0 v2 v15 v6 v7 h
theorem n12_eq {R : Type} (k : Nat) (G : KT5 R) (σ : GS) (h : Heap) : KC k 18 c12 σ h (fun x σ h => G x (σ 0) (σ 2) (σ 3) (σ 6) (σ 7) h) = n12 k G (σ 0) (σ 2) (σ 3) (σ 6) (σ 7) h := by kernel_rfl
@[simp] def n11 {R : Type} (k : Nat) (G : KT5 R) (v0 v2 v3 v6 v7 : GV) (h : Heap) : Option R := n12 k (fun x v0 v2 v3 v6 v7 h => kb 1 x fun x => G x v0 v2 v3 v6 v7 h) v0 v2 v3 v6 v7 h
theorem n11_eq {R : Type} (k : Nat) (G : KT5 R) (σ : GS) (h : Heap) : KC k 18 c11 σ h (fun x σ h => G x (σ 0) (σ 2) (σ 3) (σ 6) (σ 7) h) = n11 k G (σ 0) (σ 2) (σ 3) (σ 6) (σ 7) h := (kblock_eq (a := c12) rfl).trans (n12_eq k (fun x v0 v2 v3 v6 v7 h => kb 1 x fun x => G x v0 v2 v3 v6 v7 h) σ h)
@[simp] def n9 {R : Type} (k : Nat) (G : KT5 R) (v0 v2 v3 v6 v7 : GV) (h : Heap) : Option R := n11 k (fun x v0 v2 v3 v6 v7 h => kx x (n10 k G v0 v2 v3 v6 v7 h) (G x v0 v2 v3 v6 v7 h)) v0 v2 v3 v6 v7 h
theorem n9_eq {R : Type} (k : Nat) (G : KT5 R) (σ : GS) (h : Heap) : KC k 18 c9 σ h (fun x σ h => G x (σ 0) (σ 2) (σ 3) (σ 6) (σ 7) h) = n9 k G (σ 0) (σ 2) (σ 3) (σ 6) (σ 7) h := (kseq (b := c10) rfl (fun σ h => n10_eq k G σ h)).trans (n11_eq k (fun x v0 v2 v3 v6 v7 h => kx x (n10 k G v0 v2 v3 v6 v7 h) (G x v0 v2 v3 v6 v7 h)) σ h)
noncomputable def c13 : Code := cL c8
@[simp] def n8 {R : Type} (k : Nat) (G : KT5 R) (v0 v2 v3 v6 v7 v8 : GV) (h : Heap) : Option R := kcond v8 (n9 k G v0 v2 v3 v6 v7 h) (G (.ext 0) v0 v2 v3 v6 v7 h)
theorem n8_eq0 {R : Type} (k : Nat) (G : KT5 R) (σ : GS) (h : Heap) : KC k 18 c13 σ h (fun x σ h => kx x (n9 k G (σ 0) (σ 2) (σ 3) (σ 6) (σ 7) h) (G x (σ 0) (σ 2) (σ 3) (σ 6) (σ 7) h)) = n8 k G (σ 0) (σ 2) (σ 3) (σ 6) (σ 7) (σ 8) h := by kernel_rfl
theorem n8_eq {R : Type} (k : Nat) (G : KT5 R) (σ : GS) (h : Heap) : KC k 18 c8 σ h (fun x σ h => G x (σ 0) (σ 2) (σ 3) (σ 6) (σ 7) h) = n8 k G (σ 0) (σ 2) (σ 3) (σ 6) (σ 7) (σ 8) h := (kseq (b := c9) rfl (fun σ h => n9_eq k G σ h)).trans (n8_eq0 k G σ h)
noncomputable def c14 : Code := cL c7
@[simp] def n7 {R : Type} (k : Nat) (G : KT5 R) (v0 v2 v3 v6 v7 : GV) (h : Heap) : Option R := (kbin .lss v7 v6).bind fun v8 => n8 k G v0 v2 v3 v6 v7 v8 h
theorem n7_eq0 {R : Type} (k : Nat) (G : KT5 R) (σ : GS) (h : Heap) : KC k 18 c14 σ h (fun x σ h => kx x (n8 k G (σ 0) (σ 2) (σ 3) (σ 6) (σ 7) (σ 8) h) (G x (σ 0) (σ 2) (σ 3) (σ 6) (σ 7) h)) = n7 k G (σ 0) (σ 2) (σ 3) (σ 6) (σ 7) h := by kernel_rfl
theorem n7_eq {R : Type} (k : Nat) (G : KT5 R) (σ : GS) (h : Heap) : KC k 18 c7 σ h (fun x σ h => G x (σ 0) (σ 2) (σ 3) (σ 6) (σ 7) h) = n7 k G (σ 0) (σ 2) (σ 3) (σ 6) (σ 7) h := (kseq (b := c8) rfl (fun σ h => n8_eq k G σ h)).trans (n7_eq0 k G σ h)
def l6 {R : Type} (k : Nat) (G : KT2 R) : Nat → GV → GV → GV → GV → GV → Heap → Option R
  | 0, _, _, _, _, _, _ => none
  | r + 1, v0, v2, v3, v6, v7, h => n7 k (fun x v0 v2 v3 v6 v7 h => kx x (l6 k G r v0 v2 v3 v6 v7 h) (G x v2 v3 h)) v0 v2 v3 v6 v7 h
theorem l6_eq {R : Type} (k : Nat) (G : KT2 R) : ∀ (r : Nat) (σ : GS) (h : Heap), kloop (fun σ h K => KC k 18 c7 σ h K) r σ h (fun x σ h => G x (σ 2) (σ 3) h) = l6 k G r (σ 0) (σ 2) (σ 3) (σ 6) (σ 7) h
  | 0, _, _ => rfl
  | r + 1, σ, h => (kloop_eq (fun σ h => l6_eq k G r σ h)).trans (n7_eq k (fun x v0 v2 v3 v6 v7 h => kx x (l6 k G r v0 v2 v3 v6 v7 h) (G x v2 v3 h)) σ h)
@[simp] def n6 {R : Type} (k : Nat) (G : KT2 R) (v0 v2 v3 v6 v7 : GV) (h : Heap) : Option R := l6 k G k v0 v2 v3 v6 v7 h
theorem n6_eq {R : Type} (k : Nat) (G : KT2 R) (σ : GS) (h : Heap) : KC k 18 c6 σ h (fun x σ h => G x (σ 2) (σ 3) h) = n6 k G (σ 0) (σ 2) (σ 3) (σ 6) (σ 7) h := (kloopc_eq (a := c7) rfl).trans (l6_eq k G k σ h)
@[simp] def n5 {R : Type} (k : Nat) (G : KT2 R) (v0 v2 v3 v6 v7 : GV) (h : Heap) : Option R := n6 k (fun x v2 v3 h => kb 0 x fun x => G x v2 v3 h) v0 v2 v3 v6 v7 h
theorem n5_eq {R : Type} (k : Nat) (G : KT2 R) (σ : GS) (h : Heap) : KC k 18 c5 σ h (fun x σ h => G x (σ 2) (σ 3) h) = n5 k G (σ 0) (σ 2) (σ 3) (σ 6) (σ 7) h := (kblock_eq (a := c6) rfl).trans (n6_eq k (fun x v2 v3 h => kb 0 x fun x => G x v2 v3 h) σ h)
noncomputable def c15 : Code := cL c4
@[simp] def n4 {R : Type} (k : Nat) (G : KT2 R) (v0 v2 v3 : GV) (h : Heap) : Option R := (klenS v0).bind fun v6 => n5 k G v0 v2 v3 v6 (.int .i64 0) h
theorem n4_eq0 {R : Type} (k : Nat) (G : KT2 R) (σ : GS) (h : Heap) : KC k 18 c15 σ h (fun x σ h => kx x (n5 k G (σ 0) (σ 2) (σ 3) (σ 6) (σ 7) h) (G x (σ 2) (σ 3) h)) = n4 k G (σ 0) (σ 2) (σ 3) h := by kernel_rfl
theorem n4_eq {R : Type} (k : Nat) (G : KT2 R) (σ : GS) (h : Heap) : KC k 18 c4 σ h (fun x σ h => G x (σ 2) (σ 3) h) = n4 k G (σ 0) (σ 2) (σ 3) h := (kseq (b := c5) rfl (fun σ h => n5_eq k G σ h)).trans (n4_eq0 k G σ h)
@[simp] def n2 {R : Type} (k : Nat) (G : KT1 R) (v0 v2 v3 : GV) (h : Heap) : Option R := n4 k (fun x v2 v3 h => kx x (n3 k G v3 h) (G x v2 h)) v0 v2 v3 h
theorem n2_eq {R : Type} (k : Nat) (G : KT1 R) (σ : GS) (h : Heap) : KC k 18 c2 σ h (fun x σ h => G x (σ 2) h) = n2 k G (σ 0) (σ 2) (σ 3) h := (kseq (b := c3) rfl (fun σ h => n3_eq k G σ h)).trans (n4_eq k (fun x v2 v3 h => kx x (n3 k G v3 h) (G x v2 h)) σ h)
noncomputable def c16 : Code := cL c1
@[simp] def n1 {R : Type} (k : Nat) (G : KT1 R) (v0 v2 : GV) (h : Heap) : Option R := n2 k G v0 v2 (.int .i64 2) h
theorem n1_eq0 {R : Type} (k : Nat) (G : KT1 R) (σ : GS) (h : Heap) : KC k 18 c16 σ h (fun x σ h => kx x (n2 k G (σ 0) (σ 2) (σ 3) h) (G x (σ 2) h)) = n1 k G (σ 0) (σ 2) h := by kernel_rfl
theorem n1_eq {R : Type} (k : Nat) (G : KT1 R) (σ : GS) (h : Heap) : KC k 18 c1 σ h (fun x σ h => G x (σ 2) h) = n1 k G (σ 0) (σ 2) h := (kseq (b := c2) rfl (fun σ h => n2_eq k G σ h)).trans (n1_eq0 k G σ h)
noncomputable def c17 : Code := cL c0
@[simp] def n0 {R : Type} (k : Nat) (G : KT1 R) (v0 : GV) (h : Heap) : Option R := n1 k G v0 (.int .i64 0) h
theorem n0_eq0 {R : Type} (k : Nat) (G : KT1 R) (σ : GS) (h : Heap) : KC k 18 c17 σ h (fun x σ h => kx x (n1 k G (σ 0) (σ 2) h) (G x (σ 2) h)) = n0 k G (σ 0) h := by kernel_rfl
theorem n0_eq {R : Type} (k : Nat) (G : KT1 R) (σ : GS) (h : Heap) : KC k 18 c0 σ h (fun x σ h => G x (σ 2) h) = n0 k G (σ 0) h := (kseq (b := c1) rfl (fun σ h => n1_eq k G σ h)).trans (n0_eq0 k G σ h)
def run {R : Type} (k : Nat) (a0 : GV) (h : Heap) (fin : GV → Heap → Option R) : Option R := n0 k (fun x v2 h => kend x (fin v2 h)) a0 h
theorem run_eq {R : Type} (k : Nat) (a0 : GV) (h : Heap) (fin : GV → Heap → Option R) : kfun PP cfg NN HH k fn.impl_Sum [a0] h fin = run k a0 h fin := (kfun_eq (nt := 18) (c := c0) (show PP.funcs[fn.impl_Sum]? = some Tryd.f50 by kernel_rfl) (by kernel_rfl) (by kernel_rfl) (fun x σ h => by cases x <;> kernel_rfl)).trans (n0_eq k (fun x v2 h => kend x (fin v2 h)) _ h)
theorem gives {k : Nat} {a0 : GV} {v : GV} (e : run k a0 [] finN = some v) : NN fn.impl_Sum [a0] = some v := nω_of (by kernel_rfl) ((run_eq k a0 [] finN).trans e)
end S.impl_Sum
/-! spec_Sum -/
namespace S.spec_Sum
noncomputable def c0 : Code := bodyOf Tryd.f51
noncomputable def c1 : Code := cR c0
noncomputable def c2 : Code := cR c1
noncomputable def c3 : Code := cR c2
@[simp] def n3 {R : Type} (k : Nat) (G : KT1 R) (v3 : GV) (h : Heap) : Option R := G .ret v3 h
theorem n3_eq {R : Type} (k : Nat) (G : KT1 R) (σ : GS) (h : Heap) : KC k 18 c3 σ h (fun x σ h => G x (σ 2) h) = n3 k G (σ 3) h := by kernel_rfl
noncomputable def c4 : Code := cL c2
noncomputable def c5 : Code := cR c4
noncomputable def c6 : Code := cL c5
noncomputable def c7 : Code := cL c6
noncomputable def c8 : Code := cR c7
noncomputable def c9 : Code := cR c8
@[simp] def n9 {R : Type} (k : Nat) (G : KT4 R) (v0 v2 v3 v4 : GV) (h : Heap) : Option R := (kbin .add v4 (.int .i64 1)).bind fun v10 => G .nrm v0 v2 v3 v10 h
theorem n9_eq {R : Type} (k : Nat) (G : KT4 R) (σ : GS) (h : Heap) : KC k 18 c9 σ h (fun x σ h => G x (σ 0) (σ 2) (σ 3) (σ 4) h) = n9 k G (σ 0) (σ 2) (σ 3) (σ 4) h := by kernel_rfl
noncomputable def c10 : Code := cL c8
noncomputable def c11 : Code := cL c10
@[simp] def n11 {R : Type} (k : Nat) (G : KT4 R) (v0 v2 v3 v4 : GV) (h : Heap) : Option R := (kbyte v0 v4).bind fun v14 => (kconvI .i64 v14).bind fun v15 => (kN NN fn.spec_Mix [v3, v15] h).bind fun v16 => G .nrm v0 v2 v16 v4 h
theorem n11_eq {R : Type} (k : Nat) (G : KT4 R) (σ : GS) (h : Heap) : KC k 18 c11 σ h (fun x σ h => G x (σ 0) (σ 2) (σ 3) (σ 4) h) = n11 k G (σ 0) (σ 2) (σ 3) (σ 4) h := by kernel_rfl
@[simp] def n10 {R : Type} (k : Nat) (G : KT4 R) (v0 v2 v3 v4 : GV) (h : Heap) : Option R := n11 k (fun x v0 v2 v3 v4 h => kb 1 x fun x => G x v0 v2 v3 v4 h) v0 v2 v3 v4 h
theorem n10_eq {R : Type} (k : Nat) (G : KT4 R) (σ : GS) (h : Heap) : KC k 18 c10 σ h (fun x σ h => G x (σ 0) (σ 2) (σ 3) (σ 4) h) = n10 k G (σ 0) (σ 2) (σ 3) (σ 4) h := (kblock_eq (a := c11) rfl).trans (n11_eq k (fun x v0 v2 v3 v4 h => kb 1 x fun x => G x v0 v2 v3 v4 h) σ h)
@[simp] def n8 {R : Type} (k : Nat) (G : KT4 R) (v0 v2 v3 v4 : GV) (h : Heap) : Option R := n10 k (fun x v0 v2 v3 v4 h => kx x (n9 k G v0 v2 v3 v4 h) (G x v0 v2 v3 v4 h)) v0 v2 v3 v4 h
theorem n8_eq {R : Type} (k : Nat) (G : KT4 R) (σ : GS) (h : Heap) : KC k 18 c8 σ h (fun x σ h => G x (σ 0) (σ 2) (σ 3) (σ 4) h) = n8 k G (σ 0) (σ 2) (σ 3) (σ 4) h := (kseq (b := c9) rfl (fun σ h => n9_eq k G σ h)).trans (n10_eq k (fun x v0 v2 v3 v4 h => kx x (n9 k G v0 v2 v3 v4 h) (G x v0 v2 v3 v4 h)) σ h)
noncomputable def c12 : Code := cL c7
@[simp] def n7 {R : Type} (k : Nat) (G : KT4 R) (v0 v2 v3 v4 : GV) (h : Heap) : Option R := (klenS v0).bind fun v7 => (kbin .lss v4 v7).bind fun v8 => kcond v8 (n8 k G v0 v2 v3 v4 h) (G (.ext 0) v0 v2 v3 v4 h)
theorem n7_eq0 {R : Type} (k : Nat) (G : KT4 R) (σ : GS) (h : Heap) : KC k 18 c12 σ h (fun x σ h => kx x (n8 k G (σ 0) (σ 2) (σ 3) (σ 4) h) (G x (σ 0) (σ 2) (σ 3) (σ 4) h)) = n7 k G (σ 0) (σ 2) (σ 3) (σ 4) h := by kernel_rfl
theorem n7_eq {R : Type} (k : Nat) (G : KT4 R) (σ : GS) (h : Heap) : KC k 18 c7 σ h (fun x σ h => G x (σ 0) (σ 2) (σ 3) (σ 4) h) = n7 k G (σ 0) (σ 2) (σ 3) (σ 4) h := (kseq (b := c8) rfl (fun σ h => n8_eq k G σ h)).trans (n7_eq0 k G σ h)
def l6 {R : Type} (k : Nat) (G : KT2 R) : Nat → GV → GV → GV → GV → Heap → Option R
  | 0, _, _, _, _, _ => none
  | r + 1, v0, v2, v3, v4, h => n7 k (fun x v0 v2 v3 v4 h => kx x (l6 k G r v0 v2 v3 v4 h) (G x v2 v3 h)) v0 v2 v3 v4 h
theorem l6_eq {R : Type} (k : Nat) (G : KT2 R) : ∀ (r : Nat) (σ : GS) (h : Heap), kloop (fun σ h K => KC k 18 c7 σ h K) r σ h (fun x σ h => G x (σ 2) (σ 3) h) = l6 k G r (σ 0) (σ 2) (σ 3) (σ 4) h
  | 0, _, _ => rfl
  | r + 1, σ, h => (kloop_eq (fun σ h => l6_eq k G r σ h)).trans (n7_eq k (fun x v0 v2 v3 v4 h => kx x (l6 k G r v0 v2 v3 v4 h) (G x v2 v3 h)) σ h)
@[simp] def n6 {R : Type} (k : Nat) (G : KT2 R) (v0 v2 v3 v4 : GV) (h : Heap) : Option R := l6 k G k v0 v2 v3 v4 h
theorem n6_eq {R : Type} (k : Nat) (G : KT2 R) (σ : GS) (h : Heap) : KC k 18 c6 σ h (fun x σ h => G x (σ 2) (σ 3) h) = n6 k G (σ 0) (σ 2) (σ 3) (σ 4) h := (kloopc_eq (a := c7) rfl).trans (l6_eq k G k σ h)
@[simp] def n5 {R : Type} (k : Nat) (G : KT2 R) (v0 v2 v3 v4 : GV) (h : Heap) : Option R := n6 k (fun x v2 v3 h => kb 0 x fun x => G x v2 v3 h) v0 v2 v3 v4 h
theorem n5_eq {R : Type} (k : Nat) (G : KT2 R) (σ : GS) (h : Heap) : KC k 18 c5 σ h (fun x σ h => G x (σ 2) (σ 3) h) = n5 k G (σ 0) (σ 2) (σ 3) (σ 4) h := (kblock_eq (a := c6) rfl).trans (n6_eq k (fun x v2 v3 h => kb 0 x fun x => G x v2 v3 h) σ h)
noncomputable def c13 : Code := cL c4
@[simp] def n4 {R : Type} (k : Nat) (G : KT2 R) (v0 v2 v3 : GV) (h : Heap) : Option R := n5 k G v0 v2 v3 (.int .i64 0) h
theorem n4_eq0 {R : Type} (k : Nat) (G : KT2 R) (σ : GS) (h : Heap) : KC k 18 c13 σ h (fun x σ h => kx x (n5 k G (σ 0) (σ 2) (σ 3) (σ 4) h) (G x (σ 2) (σ 3) h)) = n4 k G (σ 0) (σ 2) (σ 3) h := by kernel_rfl
theorem n4_eq {R : Type} (k : Nat) (G : KT2 R) (σ : GS) (h : Heap) : KC k 18 c4 σ h (fun x σ h => G x (σ 2) (σ 3) h) = n4 k G (σ 0) (σ 2) (σ 3) h := (kseq (b := c5) rfl (fun σ h => n5_eq k G σ h)).trans (n4_eq0 k G σ h)
@[simp] def n2 {R : Type} (k : Nat) (G : KT1 R) (v0 v2 v3 : GV) (h : Heap) : Option R := n4 k (fun x v2 v3 h => kx x (n3 k G v3 h) (G x v2 h)) v0 v2 v3 h
theorem n2_eq {R : Type} (k : Nat) (G : KT1 R) (σ : GS) (h : Heap) : KC k 18 c2 σ h (fun x σ h => G x (σ 2) h) = n2 k G (σ 0) (σ 2) (σ 3) h := (kseq (b := c3) rfl (fun σ h => n3_eq k G σ h)).trans (n4_eq k (fun x v2 v3 h => kx x (n3 k G v3 h) (G x v2 h)) σ h)
noncomputable def c14 : Code := cL c1
@[simp] def n1 {R : Type} (k : Nat) (G : KT1 R) (v0 v2 : GV) (h : Heap) : Option R := n2 k G v0 v2 (.int .i64 2) h
theorem n1_eq0 {R : Type} (k : Nat) (G : KT1 R) (σ : GS) (h : Heap) : KC k 18 c14 σ h (fun x σ h => kx x (n2 k G (σ 0) (σ 2) (σ 3) h) (G x (σ 2) h)) = n1 k G (σ 0) (σ 2) h := by kernel_rfl
theorem n1_eq {R : Type} (k : Nat) (G : KT1 R) (σ : GS) (h : Heap) : KC k 18 c1 σ h (fun x σ h => G x (σ 2) h) = n1 k G (σ 0) (σ 2) h := (kseq (b := c2) rfl (fun σ h => n2_eq k G σ h)).trans (n1_eq0 k G σ h)
noncomputable def c15 : Code := cL c0
@[simp] def n0 {R : Type} (k : Nat) (G : KT1 R) (v0 : GV) (h : Heap) : Option R := n1 k G v0 (.int .i64 0) h
theorem n0_eq0 {R : Type} (k : Nat) (G : KT1 R) (σ : GS) (h : Heap) : KC k 18 c15 σ h (fun x σ h => kx x (n1 k G (σ 0) (σ 2) h) (G x (σ 2) h)) = n0 k G (σ 0) h := by kernel_rfl
theorem n0_eq {R : Type} (k : Nat) (G : KT1 R) (σ : GS) (h : Heap) : KC k 18 c0 σ h (fun x σ h => G x (σ 2) h) = n0 k G (σ 0) h := (kseq (b := c1) rfl (fun σ h => n1_eq k G σ h)).trans (n0_eq0 k G σ h)
def run {R : Type} (k : Nat) (a0 : GV) (h : Heap) (fin : GV → Heap → Option R) : Option R := n0 k (fun x v2 h => kend x (fin v2 h)) a0 h
theorem run_eq {R : Type} (k : Nat) (a0 : GV) (h : Heap) (fin : GV → Heap → Option R) : kfun PP cfg NN HH k fn.spec_Sum [a0] h fin = run k a0 h fin := (kfun_eq (nt := 18) (c := c0) (show PP.funcs[fn.spec_Sum]? = some Tryd.f51 by kernel_rfl) (by kernel_rfl) (by kernel_rfl) (fun x σ h => by cases x <;> kernel_rfl)).trans (n0_eq k (fun x v2 h => kend x (fin v2 h)) _ h)
theorem gives {k : Nat} {a0 : GV} {v : GV} (e : run k a0 [] finN = some v) : NN fn.spec_Sum [a0] = some v := nω_of (by kernel_rfl) ((run_eq k a0 [] finN).trans e)
end S.spec_Sum
/-! impl_EntryOk -/
namespace S.impl_EntryOk
noncomputable def c0 : Code := bodyOf Tryd.f55
noncomputable def c1 : Code := cR c0
noncomputable def c2 : Code := cR c1
noncomputable def c3 : Code := cR c2
@[simp] def n3 {R : Type} (k : Nat) (G : KT1 R) (v2 : GV) (h : Heap) : Option R := G .ret v2 h
theorem n3_eq {R : Type} (k : Nat) (G : KT1 R) (σ : GS) (h : Heap) : KC k 54 c3 σ h (fun x σ h => G x (σ 2) h) = n3 k G (σ 2) h := by kernel_rfl
noncomputable def c4 : Code := cL c2
noncomputable def o4 : Array Oper := cO c4
@[simp] def g4_6 {R : Type} (k : Nat) (G : KT1 R) (v49 v52 : GV) (h : Heap) : Option R := (kpick v49 v52 (.bool false)).bind fun v53 => G .nrm v53 h
theorem g4_6_eq {R : Type} (k : Nat) (G : KT1 R) (σ : GS) (h : Heap) : kgroups PP cfg NN HH 54 o4 [(none, [17, 18])] σ h (fun σ h => G .nrm (σ 2) h) = g4_6 k G (σ 49) (σ 52) h := by kernel_rfl
@[simp] def g4_5 {R : Type} (k : Nat) (G : KT1 R) (v1 v49 : GV) (h : Heap) : Option R := bif tr true v49 then (kfa 3 v1).bind fun v50 => (kload1 h v50).bind fun v51 => (kbin .eql v51 (.str { data := #[] })).bind fun v52 => g4_6 k G v49 v52 h else g4_6 k G v49 .un h
theorem g4_5_eq0 {R : Type} (k : Nat) (G : KT1 R) (σ : GS) (h : Heap) : kgroup1 PP cfg NN HH 54 o4 (some (13, true), [14, 15, 16]) σ h (fun σ h => g4_6 k G (σ 49) (σ 52) h) = g4_5 k G (σ 1) (σ 49) h := by kernel_rfl
theorem g4_5_eq {R : Type} (k : Nat) (G : KT1 R) (σ : GS) (h : Heap) : kgroups PP cfg NN HH 54 o4 [(some (13, true), [14, 15, 16]), (none, [17, 18])] σ h (fun σ h => G .nrm (σ 2) h) = g4_5 k G (σ 1) (σ 49) h := (kgroups_cons (fun σ h => g4_6_eq k G σ h)).trans (g4_5_eq0 k G σ h)
@[simp] def g4_4 {R : Type} (k : Nat) (G : KT1 R) (v1 v44 v47 : GV) (h : Heap) : Option R := (kpick v44 v47 (.bool false)).bind fun v48 => g4_5 k G v1 v48 h
theorem g4_4_eq0 {R : Type} (k : Nat) (G : KT1 R) (σ : GS) (h : Heap) : kgroup1 PP cfg NN HH 54 o4 (none, [12, 13]) σ h (fun σ h => g4_5 k G (σ 1) (σ 49) h) = g4_4 k G (σ 1) (σ 44) (σ 47) h := by kernel_rfl
theorem g4_4_eq {R : Type} (k : Nat) (G : KT1 R) (σ : GS) (h : Heap) : kgroups PP cfg NN HH 54 o4 [(none, [12, 13]), (some (13, true), [14, 15, 16]), (none, [17, 18])] σ h (fun σ h => G .nrm (σ 2) h) = g4_4 k G (σ 1) (σ 44) (σ 47) h := (kgroups_cons (fun σ h => g4_5_eq k G σ h)).trans (g4_4_eq0 k G σ h)
@[simp] def g4_3 {R : Type} (k : Nat) (G : KT1 R) (v1 v44 : GV) (h : Heap) : Option R := bif tr true v44 then (kfa 2 v1).bind fun v45 => (kload1 h v45).bind fun v46 => (kN NN fn.impl_in [v46, (.int .i64 1), (.int .i64 30)] h).bind fun v47 => g4_4 k G v1 v44 v47 h else g4_4 k G v1 v44 .un h
theorem g4_3_eq0 {R : Type} (k : Nat) (G : KT1 R) (σ : GS) (h : Heap) : kgroup1 PP cfg NN HH 54 o4 (some (8, true), [9, 10, 11]) σ h (fun σ h => g4_4 k G (σ 1) (σ 44) (σ 47) h) = g4_3 k G (σ 1) (σ 44) h := by kernel_rfl
theorem g4_3_eq {R : Type} (k : Nat) (G : KT1 R) (σ : GS) (h : Heap) : kgroups PP cfg NN HH 54 o4 [(some (8, true), [9, 10, 11]), (none, [12, 13]), (some (13, true), [14, 15, 16]), (none, [17, 18])] σ h (fun σ h => G .nrm (σ 2) h) = g4_3 k G (σ 1) (σ 44) h := (kgroups_cons (fun σ h => g4_4_eq k G σ h)).trans (g4_3_eq0 k G σ h)
@[simp] def g4_2 {R : Type} (k : Nat) (G : KT1 R) (v1 v39 v42 : GV) (h : Heap) : Option R := (kpick v39 v42 (.bool false)).bind fun v43 => g4_3 k G v1 v43 h
theorem g4_2_eq0 {R : Type} (k : Nat) (G : KT1 R) (σ : GS) (h : Heap) : kgroup1 PP cfg NN HH 54 o4 (none, [7, 8]) σ h (fun σ h => g4_3 k G (σ 1) (σ 44) h) = g4_2 k G (σ 1) (σ 39) (σ 42) h := by kernel_rfl
theorem g4_2_eq {R : Type} (k : Nat) (G : KT1 R) (σ : GS) (h : Heap) : kgroups PP cfg NN HH 54 o4 [(none, [7, 8]), (some (8, true), [9, 10, 11]), (none, [12, 13]), (some (13, true), [14, 15, 16]), (none, [17, 18])] σ h (fun σ h => G .nrm (σ 2) h) = g4_2 k G (σ 1) (σ 39) (σ 42) h := (kgroups_cons (fun σ h => g4_3_eq k G σ h)).trans (g4_2_eq0 k G σ h)
@[simp] def g4_1 {R : Type} (k : Nat) (G : KT1 R) (v1 v39 : GV) (h : Heap) : Option R := bif tr true v39 then (kfa 1 v1).bind fun v40 => (kload1 h v40).bind fun v41 => (kN NN fn.impl_in [v41, (.int .i64 1), (.int .i64 60)] h).bind fun v42 => g4_2 k G v1 v39 v42 h else g4_2 k G v1 v39 .un h
theorem g4_1_eq0 {R : Type} (k : Nat) (G : KT1 R) (σ : GS) (h : Heap) : kgroup1 PP cfg NN HH 54 o4 (some (3, true), [4, 5, 6]) σ h (fun σ h => g4_2 k G (σ 1) (σ 39) (σ 42) h) = g4_1 k G (σ 1) (σ 39) h := by kernel_rfl
theorem g4_1_eq {R : Type} (k : Nat) (G : KT1 R) (σ : GS) (h : Heap) : kgroups PP cfg NN HH 54 o4 [(some (3, true), [4, 5, 6]), (none, [7, 8]), (some (8, true), [9, 10, 11]), (none, [12, 13]), (some (13, true), [14, 15, 16]), (none, [17, 18])] σ h (fun σ h => G .nrm (σ 2) h) = g4_1 k G (σ 1) (σ 39) h := (kgroups_cons (fun σ h => g4_2_eq k G σ h)).trans (g4_1_eq0 k G σ h)
@[simp] def g4_0 {R : Type} (k : Nat) (G : KT1 R) (v1 : GV) (h : Heap) : Option R := (kfa 0 v1).bind fun v36 => (kload1 h v36).bind fun v37 => (kbin .eql v37 (.int .i64 3)).bind fun v38 => g4_1 k G v1 v38 h
theorem g4_0_eq0 {R : Type} (k : Nat) (G : KT1 R) (σ : GS) (h : Heap) : kgroup1 PP cfg NN HH 54 o4 (none, [0, 1, 2, 3]) σ h (fun σ h => g4_1 k G (σ 1) (σ 39) h) = g4_0 k G (σ 1) h := by kernel_rfl
theorem g4_0_eq {R : Type} (k : Nat) (G : KT1 R) (σ : GS) (h : Heap) : kgroups PP cfg NN HH 54 o4 [(none, [0, 1, 2, 3]), (some (3, true), [4, 5, 6]), (none, [7, 8]), (some (8, true), [9, 10, 11]), (none, [12, 13]), (some (13, true), [14, 15, 16]), (none, [17, 18])] σ h (fun σ h => G .nrm (σ 2) h) = g4_0 k G (σ 1) h := (kgroups_cons (fun σ h => g4_1_eq k G σ h)).trans (g4_0_eq0 k G σ h)
@[simp] def n4 {R : Type} (k : Nat) (G : KT1 R) (v1 : GV) (h : Heap) : Option R := g4_0 k G v1 h
theorem n4_eq {R : Type} (k : Nat) (G : KT1 R) (σ : GS) (h : Heap) : KC k 54 c4 σ h (fun x σ h => G x (σ 2) h) = n4 k G (σ 1) h := (kregion_eq (id := 6) (draw := false) (ops := o4) (gs := [(none, [0, 1, 2, 3]), (some (3, true), [4, 5, 6]), (none, [7, 8]), (some (8, true), [9, 10, 11]), (none, [12, 13]), (some (13, true), [14, 15, 16]), (none, [17, 18])]) (by kernel_rfl) (by kernel_rfl) (by kernel_rfl)).trans (g4_0_eq k G σ h)
@[simp] def n2 {R : Type} (k : Nat) (G : KT1 R) (v1 : GV) (h : Heap) : Option R := n4 k (fun x v2 h => kx x (n3 k G v2 h) (G x v2 h)) v1 h
theorem n2_eq {R : Type} (k : Nat) (G : KT1 R) (σ : GS) (h : Heap) : KC k 54 c2 σ h (fun x σ h => G x (σ 2) h) = n2 k G (σ 1) h := (kseq (b := c3) rfl (fun σ h => n3_eq k G σ h)).trans (n4_eq k (fun x v2 h => kx x (n3 k G v2 h) (G x v2 h)) σ h)
noncomputable def c5 : Code := cL c1
noncomputable def c6 : Code := cR c5
noncomputable def c7 : Code := cL c6
noncomputable def c8 : Code := cR c7
noncomputable def c9 : Code := cL c8
noncomputable def c10 : Code := cR c9
@[simp] def n10 {R : Type} (k : Nat) (G : KT2 R) (v1 v2 : GV) (h : Heap) : Option R := G .ret v1 v2 h
theorem n10_eq {R : Type} (k : Nat) (G : KT2 R) (σ : GS) (h : Heap) : KC k 54 c10 σ h (fun x σ h => G x (σ 1) (σ 2) h) = n10 k G (σ 1) (σ 2) h := by kernel_rfl
noncomputable def c11 : Code := cL c9
noncomputable def o11 : Array Oper := cO c11
@[simp] def g11_4 {R : Type} (k : Nat) (G : KT2 R) (v1 v15 v18 : GV) (h : Heap) : Option R := (kpick v15 v18 (.bool false)).bind fun v19 => G .nrm v1 v19 h
theorem g11_4_eq {R : Type} (k : Nat) (G : KT2 R) (σ : GS) (h : Heap) : kgroups PP cfg NN HH 54 o11 [(none, [12, 13])] σ h (fun σ h => G .nrm (σ 1) (σ 2) h) = g11_4 k G (σ 1) (σ 15) (σ 18) h := by kernel_rfl
@[simp] def g11_3 {R : Type} (k : Nat) (G : KT2 R) (v1 v15 : GV) (h : Heap) : Option R := bif tr true v15 then (kfa 3 v1).bind fun v16 => (kload1 h v16).bind fun v17 => (kN NN fn.impl_isKeys [v17] h).bind fun v18 => g11_4 k G v1 v15 v18 h else g11_4 k G v1 v15 .un h
theorem g11_3_eq0 {R : Type} (k : Nat) (G : KT2 R) (σ : GS) (h : Heap) : kgroup1 PP cfg NN HH 54 o11 (some (8, true), [9, 10, 11]) σ h (fun σ h => g11_4 k G (σ 1) (σ 15) (σ 18) h) = g11_3 k G (σ 1) (σ 15) h := by kernel_rfl
theorem g11_3_eq {R : Type} (k : Nat) (G : KT2 R) (σ : GS) (h : Heap) : kgroups PP cfg NN HH 54 o11 [(some (8, true), [9, 10, 11]), (none, [12, 13])] σ h (fun σ h => G .nrm (σ 1) (σ 2) h) = g11_3 k G (σ 1) (σ 15) h := (kgroups_cons (fun σ h => g11_4_eq k G σ h)).trans (g11_3_eq0 k G σ h)
@[simp] def g11_2 {R : Type} (k : Nat) (G : KT2 R) (v1 v10 v13 : GV) (h : Heap) : Option R := (kpick v10 v13 (.bool false)).bind fun v14 => g11_3 k G v1 v14 h
theorem g11_2_eq0 {R : Type} (k : Nat) (G : KT2 R) (σ : GS) (h : Heap) : kgroup1 PP cfg NN HH 54 o11 (none, [7, 8]) σ h (fun σ h => g11_3 k G (σ 1) (σ 15) h) = g11_2 k G (σ 1) (σ 10) (σ 13) h := by kernel_rfl
theorem g11_2_eq {R : Type} (k : Nat) (G : KT2 R) (σ : GS) (h : Heap) : kgroups PP cfg NN HH 54 o11 [(none, [7, 8]), (some (8, true), [9, 10, 11]), (none, [12, 13])] σ h (fun σ h => G .nrm (σ 1) (σ 2) h) = g11_2 k G (σ 1) (σ 10) (σ 13) h := (kgroups_cons (fun σ h => g11_3_eq k G σ h)).trans (g11_2_eq0 k G σ h)
@[simp] def g11_1 {R : Type} (k : Nat) (G : KT2 R) (v1 v10 : GV) (h : Heap) : Option R := bif tr true v10 then (kfa 2 v1).bind fun v11 => (kload1 h v11).bind fun v12 => (kN NN fn.impl_in [v12, (.int .i64 1), (.int .i64 10000)] h).bind fun v13 => g11_2 k G v1 v10 v13 h else g11_2 k G v1 v10 .un h
theorem g11_1_eq0 {R : Type} (k : Nat) (G : KT2 R) (σ : GS) (h : Heap) : kgroup1 PP cfg NN HH 54 o11 (some (3, true), [4, 5, 6]) σ h (fun σ h => g11_2 k G (σ 1) (σ 10) (σ 13) h) = g11_1 k G (σ 1) (σ 10) h := by kernel_rfl
theorem g11_1_eq {R : Type} (k : Nat) (G : KT2 R) (σ : GS) (h : Heap) : kgroups PP cfg NN HH 54 o11 [(some (3, true), [4, 5, 6]), (none, [7, 8]), (some (8, true), [9, 10, 11]), (none, [12, 13])] σ h (fun σ h => G .nrm (σ 1) (σ 2) h) = g11_1 k G (σ 1) (σ 10) h := (kgroups_cons (fun σ h => g11_2_eq k G σ h)).trans (g11_1_eq0 k G σ h)
@[simp] def g11_0 {R : Type} (k : Nat) (G : KT2 R) (v1 : GV) (h : Heap) : Option R := (kfa 1 v1).bind fun v7 => (kload1 h v7).bind fun v8 => (kN NN fn.impl_in [v8, (.int .i64 0), (.int .i64 3)] h).bind fun v9 => g11_1 k G v1 v9 h
theorem g11_0_eq0 {R : Type} (k : Nat) (G : KT2 R) (σ : GS) (h : Heap) : kgroup1 PP cfg NN HH 54 o11 (none, [0, 1, 2, 3]) σ h (fun σ h => g11_1 k G (σ 1) (σ 10) h) = g11_0 k G (σ 1) h := by kernel_rfl
theorem g11_0_eq {R : Type} (k : Nat) (G : KT2 R) (σ : GS) (h : Heap) : kgroups PP cfg NN HH 54 o11 [(none, [0, 1, 2, 3]), (some (3, true), [4, 5, 6]), (none, [7, 8]), (some (8, true), [9, 10, 11]), (none, [12, 13])] σ h (fun σ h => G .nrm (σ 1) (σ 2) h) = g11_0 k G (σ 1) h := (kgroups_cons (fun σ h => g11_1_eq k G σ h)).trans (g11_0_eq0 k G σ h)
@[simp] def n11 {R : Type} (k : Nat) (G : KT2 R) (v1 : GV) (h : Heap) : Option R := g11_0 k G v1 h
theorem n11_eq {R : Type} (k : Nat) (G : KT2 R) (σ : GS) (h : Heap) : KC k 54 c11 σ h (fun x σ h => G x (σ 1) (σ 2) h) = n11 k G (σ 1) h := (kregion_eq (id := 3) (draw := false) (ops := o11) (gs := [(none, [0, 1, 2, 3]), (some (3, true), [4, 5, 6]), (none, [7, 8]), (some (8, true), [9, 10, 11]), (none, [12, 13])]) (by kernel_rfl) (by kernel_rfl) (by kernel_rfl)).trans (g11_0_eq k G σ h)
@[simp] def n9 {R : Type} (k : Nat) (G : KT2 R) (v1 : GV) (h : Heap) : Option R := n11 k (fun x v1 v2 h => kx x (n10 k G v1 v2 h) (G x v1 v2 h)) v1 h
theorem n9_eq {R : Type} (k : Nat) (G : KT2 R) (σ : GS) (h : Heap) : KC k 54 c9 σ h (fun x σ h => G x (σ 1) (σ 2) h) = n9 k G (σ 1) h := (kseq (b := c10) rfl (fun σ h => n10_eq k G σ h)).trans (n11_eq k (fun x v1 v2 h => kx x (n10 k G v1 v2 h) (G x v1 v2 h)) σ h)
noncomputable def c12 : Code := cR c8
noncomputable def c13 : Code := cR c12
noncomputable def c14 : Code := cL c13
noncomputable def c15 : Code := cR c14
@[simp] def n15 {R : Type} (k : Nat) (G : KT2 R) (v1 v2 : GV) (h : Heap) : Option R := G .ret v1 v2 h
theorem n15_eq {R : Type} (k : Nat) (G : KT2 R) (σ : GS) (h : Heap) : KC k 54 c15 σ h (fun x σ h => G x (σ 1) (σ 2) h) = n15 k G (σ 1) (σ 2) h := by kernel_rfl
noncomputable def c16 : Code := cL c14
noncomputable def o16 : Array Oper := cO c16
@[simp] def g16_4 {R : Type} (k : Nat) (G : KT2 R) (v1 v30 v34 : GV) (h : Heap) : Option R := (kpick v30 v34 (.bool false)).bind fun v35 => G .nrm v1 v35 h
theorem g16_4_eq {R : Type} (k : Nat) (G : KT2 R) (σ : GS) (h : Heap) : kgroups PP cfg NN HH 54 o16 [(none, [13, 14])] σ h (fun σ h => G .nrm (σ 1) (σ 2) h) = g16_4 k G (σ 1) (σ 30) (σ 34) h := by kernel_rfl
@[simp] def g16_3 {R : Type} (k : Nat) (G : KT2 R) (v1 v30 : GV) (h : Heap) : Option R := bif tr true v30 then (kfa 3 v1).bind fun v31 => (kload1 h v31).bind fun v32 => (klenS v32).bind fun v33 => (kN NN fn.impl_in [v33, (.int .i64 1), (.int .i64 60)] h).bind fun v34 => g16_4 k G v1 v30 v34 h else g16_4 k G v1 v30 .un h
theorem g16_3_eq0 {R : Type} (k : Nat) (G : KT2 R) (σ : GS) (h : Heap) : kgroup1 PP cfg NN HH 54 o16 (some (8, true), [9, 10, 11, 12]) σ h (fun σ h => g16_4 k G (σ 1) (σ 30) (σ 34) h) = g16_3 k G (σ 1) (σ 30) h := by kernel_rfl
theorem g16_3_eq {R : Type} (k : Nat) (G : KT2 R) (σ : GS) (h : Heap) : kgroups PP cfg NN HH 54 o16 [(some (8, true), [9, 10, 11, 12]), (none, [13, 14])] σ h (fun σ h => G .nrm (σ 1) (σ 2) h) = g16_3 k G (σ 1) (σ 30) h := (kgroups_cons (fun σ h => g16_4_eq k G σ h)).trans (g16_3_eq0 k G σ h)
@[simp] def g16_2 {R : Type} (k : Nat) (G : KT2 R) (v1 v25 v28 : GV) (h : Heap) : Option R := (kpick v25 v28 (.bool false)).bind fun v29 => g16_3 k G v1 v29 h
theorem g16_2_eq0 {R : Type} (k : Nat) (G : KT2 R) (σ : GS) (h : Heap) : kgroup1 PP cfg NN HH 54 o16 (none, [7, 8]) σ h (fun σ h => g16_3 k G (σ 1) (σ 30) h) = g16_2 k G (σ 1) (σ 25) (σ 28) h := by kernel_rfl
theorem g16_2_eq {R : Type} (k : Nat) (G : KT2 R) (σ : GS) (h : Heap) : kgroups PP cfg NN HH 54 o16 [(none, [7, 8]), (some (8, true), [9, 10, 11, 12]), (none, [13, 14])] σ h (fun σ h => G .nrm (σ 1) (σ 2) h) = g16_2 k G (σ 1) (σ 25) (σ 28) h := (kgroups_cons (fun σ h => g16_3_eq k G σ h)).trans (g16_2_eq0 k G σ h)
@[simp] def g16_1 {R : Type} (k : Nat) (G : KT2 R) (v1 v25 : GV) (h : Heap) : Option R := bif tr true v25 then (kfa 2 v1).bind fun v26 => (kload1 h v26).bind fun v27 => (kbin .eql v27 (.int .i64 0)).bind fun v28 => g16_2 k G v1 v25 v28 h else g16_2 k G v1 v25 .un h
theorem g16_1_eq0 {R : Type} (k : Nat) (G : KT2 R) (σ : GS) (h : Heap) : kgroup1 PP cfg NN HH 54 o16 (some (3, true), [4, 5, 6]) σ h (fun σ h => g16_2 k G (σ 1) (σ 25) (σ 28) h) = g16_1 k G (σ 1) (σ 25) h := by kernel_rfl
theorem g16_1_eq {R : Type} (k : Nat) (G : KT2 R) (σ : GS) (h : Heap) : kgroups PP cfg NN HH 54 o16 [(some (3, true), [4, 5, 6]), (none, [7, 8]), (some (8, true), [9, 10, 11, 12]), (none, [13, 14])] σ h (fun σ h => G .nrm (σ 1) (σ 2) h) = g16_1 k G (σ 1) (σ 25) h := (kgroups_cons (fun σ h => g16_2_eq k G σ h)).trans (g16_1_eq0 k G σ h)
@[simp] def g16_0 {R : Type} (k : Nat) (G : KT2 R) (v1 : GV) (h : Heap) : Option R := (kfa 1 v1).bind fun v22 => (kload1 h v22).bind fun v23 => (kbin .eql v23 (.int .i64 0)).bind fun v24 => g16_1 k G v1 v24 h
theorem g16_0_eq0 {R : Type} (k : Nat) (G : KT2 R) (σ : GS) (h : Heap) : kgroup1 PP cfg NN HH 54 o16 (none, [0, 1, 2, 3]) σ h (fun σ h => g16_1 k G (σ 1) (σ 25) h) = g16_0 k G (σ 1) h := by kernel_rfl
theorem g16_0_eq {R : Type} (k : Nat) (G : KT2 R) (σ : GS) (h : Heap) : kgroups PP cfg NN HH 54 o16 [(none, [0, 1, 2, 3]), (some (3, true), [4, 5, 6]), (none, [7, 8]), (some (8, true), [9, 10, 11, 12]), (none, [13, 14])] σ h (fun σ h => G .nrm (σ 1) (σ 2) h) = g16_0 k G (σ 1) h := (kgroups_cons (fun σ h => g16_1_eq k G σ h)).trans (g16_0_eq0 k G σ h)
@[simp] def n16 {R : Type} (k : Nat) (G : KT2 R) (v1 : GV) (h : Heap) : Option R := g16_0 k G v1 h
theorem n16_eq {R : Type} (k : Nat) (G : KT2 R) (σ : GS) (h : Heap) : KC k 54 c16 σ h (fun x σ h => G x (σ 1) (σ 2) h) = n16 k G (σ 1) h := (kregion_eq (id := 5) (draw := false) (ops := o16) (gs := [(none, [0, 1, 2, 3]), (some (3, true), [4, 5, 6]), (none, [7, 8]), (some (8, true), [9, 10, 11, 12]), (none, [13, 14])]) (by kernel_rfl) (by kernel_rfl) (by kernel_rfl)).trans (g16_0_eq k G σ h)
@[simp] def n14 {R : Type} (k : Nat) (G : KT2 R) (v1 : GV) (h : Heap) : Option R := n16 k (fun x v1 v2 h => kx x (n15 k G v1 v2 h) (G x v1 v2 h)) v1 h
theorem n14_eq {R : Type} (k : Nat) (G : KT2 R) (σ : GS) (h : Heap) : KC k 54 c14 σ h (fun x σ h => G x (σ 1) (σ 2) h) = n14 k G (σ 1) h := (kseq (b := c15) rfl (fun σ h => n15_eq k G σ h)).trans (n16_eq k (fun x v1 v2 h => kx x (n15 k G v1 v2 h) (G x v1 v2 h)) σ h)
noncomputable def c17 : Code := cR c13
@[simp] def n17 {R : Type} (k : Nat) (G : KT2 R) (v1 v2 : GV) (h : Heap) : Option R := G .nrm v1 v2 h
theorem n17_eq {R : Type} (k : Nat) (G : KT2 R) (σ : GS) (h : Heap) : KC k 54 c17 σ h (fun x σ h => G x (σ 1) (σ 2) h) = n17 k G (σ 1) (σ 2) h := by kernel_rfl
@[simp] def n13 {R : Type} (k : Nat) (G : KT2 R) (v1 v2 v20 : GV) (h : Heap) : Option R := kcond v20 (n14 k G v1 h) (n17 k G v1 v2 h)
theorem n13_eq {R : Type} (k : Nat) (G : KT2 R) (σ : GS) (h : Heap) : KC k 54 c13 σ h (fun x σ h => G x (σ 1) (σ 2) h) = n13 k G (σ 1) (σ 2) (σ 20) h := (kcond_eq (a := c14) (b := c17) rfl (by rfl)).trans (congr (congrArg (kcond (σ 20)) (n14_eq k G σ h)) (n17_eq k G σ h))
noncomputable def c18 : Code := cL c12
@[simp] def n12 {R : Type} (k : Nat) (G : KT2 R) (v1 v2 v4 : GV) (h : Heap) : Option R := (kbin .eql v4 (.int .i64 2)).bind fun v21 => n13 k G v1 v2 v21 h
theorem n12_eq0 {R : Type} (k : Nat) (G : KT2 R) (σ : GS) (h : Heap) : KC k 54 c18 σ h (fun x σ h => kx x (n13 k G (σ 1) (σ 2) (σ 20) h) (G x (σ 1) (σ 2) h)) = n12 k G (σ 1) (σ 2) (σ 4) h := by kernel_rfl
theorem n12_eq {R : Type} (k : Nat) (G : KT2 R) (σ : GS) (h : Heap) : KC k 54 c12 σ h (fun x σ h => G x (σ 1) (σ 2) h) = n12 k G (σ 1) (σ 2) (σ 4) h := (kseq (b := c13) rfl (fun σ h => n13_eq k G σ h)).trans (n12_eq0 k G σ h)
@[simp] def n8 {R : Type} (k : Nat) (G : KT2 R) (v1 v2 v4 v5 : GV) (h : Heap) : Option R := kcond v5 (n9 k G v1 h) (n12 k G v1 v2 v4 h)
theorem n8_eq {R : Type} (k : Nat) (G : KT2 R) (σ : GS) (h : Heap) : KC k 54 c8 σ h (fun x σ h => G x (σ 1) (σ 2) h) = n8 k G (σ 1) (σ 2) (σ 4) (σ 5) h := (kcond_eq (a := c9) (b := c12) rfl (by rfl)).trans (congr (congrArg (kcond (σ 5)) (n9_eq k G σ h)) (n12_eq k G σ h))
noncomputable def c19 : Code := cL c7
@[simp] def n7 {R : Type} (k : Nat) (G : KT2 R) (v1 v2 v4 : GV) (h : Heap) : Option R := (kbin .eql v4 (.int .i64 1)).bind fun v6 => n8 k G v1 v2 v4 v6 h
theorem n7_eq0 {R : Type} (k : Nat) (G : KT2 R) (σ : GS) (h : Heap) : KC k 54 c19 σ h (fun x σ h => kx x (n8 k G (σ 1) (σ 2) (σ 4) (σ 5) h) (G x (σ 1) (σ 2) h)) = n7 k G (σ 1) (σ 2) (σ 4) h := by kernel_rfl
theorem n7_eq {R : Type} (k : Nat) (G : KT2 R) (σ : GS) (h : Heap) : KC k 54 c7 σ h (fun x σ h => G x (σ 1) (σ 2) h) = n7 k G (σ 1) (σ 2) (σ 4) h := (kseq (b := c8) rfl (fun σ h => n8_eq k G σ h)).trans (n7_eq0 k G σ h)
@[simp] def n6 {R : Type} (k : Nat) (G : KT2 R) (v1 v2 v4 : GV) (h : Heap) : Option R := n7 k (fun x v1 v2 h => kb 0 x fun x => G x v1 v2 h) v1 v2 v4 h
theorem n6_eq {R : Type} (k : Nat) (G : KT2 R) (σ : GS) (h : Heap) : KC k 54 c6 σ h (fun x σ h => G x (σ 1) (σ 2) h) = n6 k G (σ 1) (σ 2) (σ 4) h := (kblock_eq (a := c7) rfl).trans (n7_eq k (fun x v1 v2 h => kb 0 x fun x => G x v1 v2 h) σ h)
noncomputable def c20 : Code := cL c5
@[simp] def n5 {R : Type} (k : Nat) (G : KT2 R) (v1 v2 : GV) (h : Heap) : Option R := (kfa 0 v1).bind fun v3 => (kload1 h v3).bind fun v4 => n6 k G v1 v2 v4 h
theorem n5_eq0 {R : Type} (k : Nat) (G : KT2 R) (σ : GS) (h : Heap) : KC k 54 c20 σ h (fun x σ h => kx x (n6 k G (σ 1) (σ 2) (σ 4) h) (G x (σ 1) (σ 2) h)) = n5 k G (σ 1) (σ 2) h := by kernel_rfl
theorem n5_eq {R : Type} (k : Nat) (G : KT2 R) (σ : GS) (h : Heap) : KC k 54 c5 σ h (fun x σ h => G x (σ 1) (σ 2) h) = n5 k G (σ 1) (σ 2) h := (kseq (b := c6) rfl (fun σ h => n6_eq k G σ h)).trans (n5_eq0 k G σ h)
@[simp] def n1 {R : Type} (k : Nat) (G : KT1 R) (v1 v2 : GV) (h : Heap) : Option R := n5 k (fun x v1 v2 h => kx x (n2 k G v1 h) (G x v2 h)) v1 v2 h
theorem n1_eq {R : Type} (k : Nat) (G : KT1 R) (σ : GS) (h : Heap) : KC k 54 c1 σ h (fun x σ h => G x (σ 2) h) = n1 k G (σ 1) (σ 2) h := (kseq (b := c2) rfl (fun σ h => n2_eq k G σ h)).trans (n5_eq k (fun x v1 v2 h => kx x (n2 k G v1 h) (G x v2 h)) σ h)
noncomputable def c21 : Code := cL c0
@[simp] def n0 {R : Type} (k : Nat) (G : KT1 R) (v0 : GV) (h : Heap) : Option R := kbox v0 h fun v1 h => n1 k G v1 (.bool false) h
theorem n0_eq0 {R : Type} (k : Nat) (G : KT1 R) (σ : GS) (h : Heap) : KC k 54 c21 σ h (fun x σ h => kx x (n1 k G (σ 1) (σ 2) h) (G x (σ 2) h)) = n0 k G (σ 0) h := by kernel_rfl
theorem n0_eq {R : Type} (k : Nat) (G : KT1 R) (σ : GS) (h : Heap) : KC k 54 c0 σ h (fun x σ h => G x (σ 2) h) = n0 k G (σ 0) h := (kseq (b := c1) rfl (fun σ h => n1_eq k G σ h)).trans (n0_eq0 k G σ h)
def run {R : Type} (k : Nat) (a0 : GV) (h : Heap) (fin : GV → Heap → Option R) : Option R := n0 k (fun x v2 h => kend x (fin v2 h)) a0 h
theorem run_eq {R : Type} (k : Nat) (a0 : GV) (h : Heap) (fin : GV → Heap → Option R) : kfun PP cfg NN HH k fn.impl_EntryOk [a0] h fin = run k a0 h fin := (kfun_eq (nt := 54) (c := c0) (show PP.funcs[fn.impl_EntryOk]? = some Tryd.f55 by kernel_rfl) (by kernel_rfl) (by kernel_rfl) (fun x σ h => by cases x <;> kernel_rfl)).trans (n0_eq k (fun x v2 h => kend x (fin v2 h)) _ h)
theorem gives {k : Nat} {a0 : GV} {v : GV} (e : run k a0 [] finN = some v) : NN fn.impl_EntryOk [a0] = some v := nω_of (by kernel_rfl) ((run_eq k a0 [] finN).trans e)
end S.impl_EntryOk
/-! spec_l3Int -/
namespace S.spec_l3Int
noncomputable def c0 : Code := bodyOf Tryd.f67
noncomputable def c1 : Code := cR c0
noncomputable def c2 : Code := cR c1
noncomputable def c3 : Code := cR c2
noncomputable def c4 : Code := cR c3
noncomputable def c5 : Code := cR c4
@[simp] def n5 {R : Type} (k : Nat) (G : KT1 R) (v3 : GV) (h : Heap) : Option R := G .ret v3 h
theorem n5_eq {R : Type} (k : Nat) (G : KT1 R) (σ : GS) (h : Heap) : KC k 33 c5 σ h (fun x σ h => G x (σ 2) h) = n5 k G (σ 3) h := by kernel_rfl
noncomputable def c6 : Code := cL c4
@[simp] def n4 {R : Type} (k : Nat) (G : KT1 R) (v2 v3 v4 : GV) (h : Heap) : Option R := kcond v4 ((kbin .add (.str { data := #[45] }) v3).bind fun v31 => n5 k G v31 h) (n5 k G v3 h)
theorem n4_eq0 {R : Type} (k : Nat) (G : KT1 R) (σ : GS) (h : Heap) : KC k 33 c6 σ h (fun x σ h => kx x (n5 k G (σ 3) h) (G x (σ 2) h)) = n4 k G (σ 2) (σ 3) (σ 4) h := by kernel_rfl
theorem n4_eq {R : Type} (k : Nat) (G : KT1 R) (σ : GS) (h : Heap) : KC k 33 c4 σ h (fun x σ h => G x (σ 2) h) = n4 k G (σ 2) (σ 3) (σ 4) h := (kseq (b := c5) rfl (fun σ h => n5_eq k G σ h)).trans (n4_eq0 k G σ h)
noncomputable def c7 : Code := cL c3
noncomputable def c8 : Code := cL c7
noncomputable def c9 : Code := cL c8
noncomputable def c10 : Code := cR c9
noncomputable def c11 : Code := cL c10
noncomputable def c12 : Code := cR c11
noncomputable def c13 : Code := cR c12
@[simp] def n13 {R : Type} (k : Nat) (G : KT4 R) (v0 v2 v3 v4 v5 : GV) (h : Heap) : Option R := (kbin .add (.int .i64 48) v5).bind fun v21 => (kconvI .u8 v21).bind fun v22 => (gfill (fun i => some (i * 1, 1)) (zeros [(.int .u8 0)] 1) [(0, v22)]).bind fun c => kbs 1 1 c h fun v23 h => (kbstr h v23).bind fun v24 => (kbin .add v24 v3).bind fun v26 => (kbin .quo v0 (.int .i64 10)).bind fun v28 => G .nrm v28 v2 v26 v4 h
theorem n13_eq {R : Type} (k : Nat) (G : KT4 R) (σ : GS) (h : Heap) : KC k 33 c13 σ h (fun x σ h => G x (σ 0) (σ 2) (σ 3) (σ 4) h) = n13 k G (σ 0) (σ 2) (σ 3) (σ 4) (σ 5) h := by kernel_rfl
noncomputable def c14 : Code := cL c12
@[simp] def n12 {R : Type} (k : Nat) (G : KT4 R) (v0 v2 v3 v4 v5 : GV) (h : Heap) : Option R := (kbin .lss v5 (.int .i64 0)).bind fun v17 => kcond v17 ((kun .neg v5).bind fun v19 => n13 k G v0 v2 v3 v4 v19 h) (n13 k G v0 v2 v3 v4 v5 h)
theorem n12_eq0 {R : Type} (k : Nat) (G : KT4 R) (σ : GS) (h : Heap) : KC k 33 c14 σ h (fun x σ h => kx x (n13 k G (σ 0) (σ 2) (σ 3) (σ 4) (σ 5) h) (G x (σ 0) (σ 2) (σ 3) (σ 4) h)) = n12 k G (σ 0) (σ 2) (σ 3) (σ 4) (σ 5) h := by kernel_rfl
theorem n12_eq {R : Type} (k : Nat) (G : KT4 R) (σ : GS) (h : Heap) : KC k 33 c12 σ h (fun x σ h => G x (σ 0) (σ 2) (σ 3) (σ 4) h) = n12 k G (σ 0) (σ 2) (σ 3) (σ 4) (σ 5) h := (kseq (b := c13) rfl (fun σ h => n13_eq k G σ h)).trans (n12_eq0 k G σ h)
noncomputable def c15 : Code := cL c11
@[simp] def n11 {R : Type} (k : Nat) (G : KT4 R) (v0 v2 v3 v4 : GV) (h : Heap) : Option R := (kbin .rem v0 (.int .i64 10)).bind fun v15 => n12 k G v0 v2 v3 v4 v15 h
theorem n11_eq0 {R : Type} (k : Nat) (G : KT4 R) (σ : GS) (h : Heap) : KC k 33 c15 σ h (fun x σ h => kx x (n12 k G (σ 0) (σ 2) (σ 3) (σ 4) (σ 5) h) (G x (σ 0) (σ 2) (σ 3) (σ 4) h)) = n11 k G (σ 0) (σ 2) (σ 3) (σ 4) h := by kernel_rfl
theorem n11_eq {R : Type} (k : Nat) (G : KT4 R) (σ : GS) (h : Heap) : KC k 33 c11 σ h (fun x σ h => G x (σ 0) (σ 2) (σ 3) (σ 4) h) = n11 k G (σ 0) (σ 2) (σ 3) (σ 4) h := (kseq (b := c12) rfl (fun σ h => n12_eq k G σ h)).trans (n11_eq0 k G σ h)
@[simp] def n10 {R : Type} (k : Nat) (G : KT4 R) (v0 v2 v3 v4 : GV) (h : Heap) : Option R := n11 k (fun x v0 v2 v3 v4 h => kb 1 x fun x => G x v0 v2 v3 v4 h) v0 v2 v3 v4 h
theorem n10_eq {R : Type} (k : Nat) (G : KT4 R) (σ : GS) (h : Heap) : KC k 33 c10 σ h (fun x σ h => G x (σ 0) (σ 2) (σ 3) (σ 4) h) = n10 k G (σ 0) (σ 2) (σ 3) (σ 4) h := (kblock_eq (a := c11) rfl).trans (n11_eq k (fun x v0 v2 v3 v4 h => kb 1 x fun x => G x v0 v2 v3 v4 h) σ h)
noncomputable def c16 : Code := cL c9
noncomputable def c17 : Code := cR c16
@[simp] def n17 {R : Type} (k : Nat) (G : KT4 R) (v0 v2 v3 v4 v13 : GV) (h : Heap) : Option R := kcond v13 (G .nrm v0 v2 v3 v4 h) (G (.ext 0) v0 v2 v3 v4 h)
theorem n17_eq {R : Type} (k : Nat) (G : KT4 R) (σ : GS) (h : Heap) : KC k 33 c17 σ h (fun x σ h => G x (σ 0) (σ 2) (σ 3) (σ 4) h) = n17 k G (σ 0) (σ 2) (σ 3) (σ 4) (σ 13) h := by kernel_rfl
noncomputable def c18 : Code := cL c16
noncomputable def o18 : Array Oper := cO c18
@[simp] def g18_2 {R : Type} (k : Nat) (G : KT5 R) (v0 v2 v3 v4 v10 v12 : GV) (h : Heap) : Option R := (kpick v10 (.bool true) v12).bind fun v13 => G .nrm v0 v2 v3 v4 v13 h
theorem g18_2_eq {R : Type} (k : Nat) (G : KT5 R) (σ : GS) (h : Heap) : kgroups PP cfg NN HH 33 o18 [(none, [5])] σ h (fun σ h => G .nrm (σ 0) (σ 2) (σ 3) (σ 4) (σ 13) h) = g18_2 k G (σ 0) (σ 2) (σ 3) (σ 4) (σ 10) (σ 12) h := by kernel_rfl
@[simp] def g18_1 {R : Type} (k : Nat) (G : KT5 R) (v0 v2 v3 v4 v10 : GV) (h : Heap) : Option R := bif tr false v10 then (kbin .neq v0 (.int .i64 0)).bind fun v12 => g18_2 k G v0 v2 v3 v4 v10 v12 h else g18_2 k G v0 v2 v3 v4 v10 .un h
theorem g18_1_eq0 {R : Type} (k : Nat) (G : KT5 R) (σ : GS) (h : Heap) : kgroup1 PP cfg NN HH 33 o18 (some (2, false), [3, 4]) σ h (fun σ h => g18_2 k G (σ 0) (σ 2) (σ 3) (σ 4) (σ 10) (σ 12) h) = g18_1 k G (σ 0) (σ 2) (σ 3) (σ 4) (σ 10) h := by kernel_rfl
theorem g18_1_eq {R : Type} (k : Nat) (G : KT5 R) (σ : GS) (h : Heap) : kgroups PP cfg NN HH 33 o18 [(some (2, false), [3, 4]), (none, [5])] σ h (fun σ h => G .nrm (σ 0) (σ 2) (σ 3) (σ 4) (σ 13) h) = g18_1 k G (σ 0) (σ 2) (σ 3) (σ 4) (σ 10) h := (kgroups_cons (fun σ h => g18_2_eq k G σ h)).trans (g18_1_eq0 k G σ h)
@[simp] def g18_0 {R : Type} (k : Nat) (G : KT5 R) (v0 v2 v3 v4 : GV) (h : Heap) : Option R := (kbin .eql v3 (.str { data := #[] })).bind fun v9 => g18_1 k G v0 v2 v3 v4 v9 h
theorem g18_0_eq0 {R : Type} (k : Nat) (G : KT5 R) (σ : GS) (h : Heap) : kgroup1 PP cfg NN HH 33 o18 (none, [0, 1, 2]) σ h (fun σ h => g18_1 k G (σ 0) (σ 2) (σ 3) (σ 4) (σ 10) h) = g18_0 k G (σ 0) (σ 2) (σ 3) (σ 4) h := by kernel_rfl
theorem g18_0_eq {R : Type} (k : Nat) (G : KT5 R) (σ : GS) (h : Heap) : kgroups PP cfg NN HH 33 o18 [(none, [0, 1, 2]), (some (2, false), [3, 4]), (none, [5])] σ h (fun σ h => G .nrm (σ 0) (σ 2) (σ 3) (σ 4) (σ 13) h) = g18_0 k G (σ 0) (σ 2) (σ 3) (σ 4) h := (kgroups_cons (fun σ h => g18_1_eq k G σ h)).trans (g18_0_eq0 k G σ h)
@[simp] def n18 {R : Type} (k : Nat) (G : KT5 R) (v0 v2 v3 v4 : GV) (h : Heap) : Option R := g18_0 k G v0 v2 v3 v4 h
theorem n18_eq {R : Type} (k : Nat) (G : KT5 R) (σ : GS) (h : Heap) : KC k 33 c18 σ h (fun x σ h => G x (σ 0) (σ 2) (σ 3) (σ 4) (σ 13) h) = n18 k G (σ 0) (σ 2) (σ 3) (σ 4) h := (kregion_eq (id := 3) (draw := false) (ops := o18) (gs := [(none, [0, 1, 2]), (some (2, false), [3, 4]), (none, [5])]) (by kernel_rfl) (by kernel_rfl) (by kernel_rfl)).trans (g18_0_eq k G σ h)
@[simp] def n16 {R : Type} (k : Nat) (G : KT4 R) (v0 v2 v3 v4 : GV) (h : Heap) : Option R := n18 k (fun x v0 v2 v3 v4 v13 h => kx x (n17 k G v0 v2 v3 v4 v13 h) (G x v0 v2 v3 v4 h)) v0 v2 v3 v4 h
theorem n16_eq {R : Type} (k : Nat) (G : KT4 R) (σ : GS) (h : Heap) : KC k 33 c16 σ h (fun x σ h => G x (σ 0) (σ 2) (σ 3) (σ 4) h) = n16 k G (σ 0) (σ 2) (σ 3) (σ 4) h := (kseq (b := c17) rfl (fun σ h => n17_eq k G σ h)).trans (n18_eq k (fun x v0 v2 v3 v4 v13 h => kx x (n17 k G v0 v2 v3 v4 v13 h) (G x v0 v2 v3 v4 h)) σ h)
@[simp] def n9 {R : Type} (k : Nat) (G : KT4 R) (v0 v2 v3 v4 : GV) (h : Heap) : Option R := n16 k (fun x v0 v2 v3 v4 h => kx x (n10 k G v0 v2 v3 v4 h) (G x v0 v2 v3 v4 h)) v0 v2 v3 v4 h
theorem n9_eq {R : Type} (k : Nat) (G : KT4 R) (σ : GS) (h : Heap) : KC k 33 c9 σ h (fun x σ h => G x (σ 0) (σ 2) (σ 3) (σ 4) h) = n9 k G (σ 0) (σ 2) (σ 3) (σ 4) h := (kseq (b := c10) rfl (fun σ h => n10_eq k G σ h)).trans (n16_eq k (fun x v0 v2 v3 v4 h => kx x (n10 k G v0 v2 v3 v4 h) (G x v0 v2 v3 v4 h)) σ h)
def l8 {R : Type} (k : Nat) (G : KT3 R) : Nat → GV → GV → GV → GV → Heap → Option R
  | 0, _, _, _, _, _ => none
  | r + 1, v0, v2, v3, v4, h => n9 k (fun x v0 v2 v3 v4 h => kx x (l8 k G r v0 v2 v3 v4 h) (G x v2 v3 v4 h)) v0 v2 v3 v4 h
theorem l8_eq {R : Type} (k : Nat) (G : KT3 R) : ∀ (r : Nat) (σ : GS) (h : Heap), kloop (fun σ h K => KC k 33 c9 σ h K) r σ h (fun x σ h => G x (σ 2) (σ 3) (σ 4) h) = l8 k G r (σ 0) (σ 2) (σ 3) (σ 4) h
  | 0, _, _ => rfl
  | r + 1, σ, h => (kloop_eq (fun σ h => l8_eq k G r σ h)).trans (n9_eq k (fun x v0 v2 v3 v4 h => kx x (l8 k G r v0 v2 v3 v4 h) (G x v2 v3 v4 h)) σ h)
@[simp] def n8 {R : Type} (k : Nat) (G : KT3 R) (v0 v2 v3 v4 : GV) (h : Heap) : Option R := l8 k G k v0 v2 v3 v4 h
theorem n8_eq {R : Type} (k : Nat) (G : KT3 R) (σ : GS) (h : Heap) : KC k 33 c8 σ h (fun x σ h => G x (σ 2) (σ 3) (σ 4) h) = n8 k G (σ 0) (σ 2) (σ 3) (σ 4) h := (kloopc_eq (a := c9) rfl).trans (l8_eq k G k σ h)
@[simp] def n7 {R : Type} (k : Nat) (G : KT3 R) (v0 v2 v3 v4 : GV) (h : Heap) : Option R := n8 k (fun x v2 v3 v4 h => kb 0 x fun x => G x v2 v3 v4 h) v0 v2 v3 v4 h
theorem n7_eq {R : Type} (k : Nat) (G : KT3 R) (σ : GS) (h : Heap) : KC k 33 c7 σ h (fun x σ h => G x (σ 2) (σ 3) (σ 4) h) = n7 k G (σ 0) (σ 2) (σ 3) (σ 4) h := (kblock_eq (a := c8) rfl).trans (n8_eq k (fun x v2 v3 v4 h => kb 0 x fun x => G x v2 v3 v4 h) σ h)
@[simp] def n3 {R : Type} (k : Nat) (G : KT1 R) (v0 v2 v3 v4 : GV) (h : Heap) : Option R := n7 k (fun x v2 v3 v4 h => kx x (n4 k G v2 v3 v4 h) (G x v2 h)) v0 v2 v3 v4 h
theorem n3_eq {R : Type} (k : Nat) (G : KT1 R) (σ : GS) (h : Heap) : KC k 33 c3 σ h (fun x σ h => G x (σ 2) h) = n3 k G (σ 0) (σ 2) (σ 3) (σ 4) h := (kseq (b := c4) rfl (fun σ h => n4_eq k G σ h)).trans (n7_eq k (fun x v2 v3 v4 h => kx x (n4 k G v2 v3 v4 h) (G x v2 h)) σ h)
noncomputable def c19 : Code := cL c2
@[simp] def n2 {R : Type} (k : Nat) (G : KT1 R) (v0 v2 v3 : GV) (h : Heap) : Option R := (kbin .lss v0 (.int .i64 0)).bind fun v7 => n3 k G v0 v2 v3 v7 h
theorem n2_eq0 {R : Type} (k : Nat) (G : KT1 R) (σ : GS) (h : Heap) : KC k 33 c19 σ h (fun x σ h => kx x (n3 k G (σ 0) (σ 2) (σ 3) (σ 4) h) (G x (σ 2) h)) = n2 k G (σ 0) (σ 2) (σ 3) h := by kernel_rfl
theorem n2_eq {R : Type} (k : Nat) (G : KT1 R) (σ : GS) (h : Heap) : KC k 33 c2 σ h (fun x σ h => G x (σ 2) h) = n2 k G (σ 0) (σ 2) (σ 3) h := (kseq (b := c3) rfl (fun σ h => n3_eq k G σ h)).trans (n2_eq0 k G σ h)
noncomputable def c20 : Code := cL c1
@[simp] def n1 {R : Type} (k : Nat) (G : KT1 R) (v0 v2 : GV) (h : Heap) : Option R := n2 k G v0 v2 (.str { data := #[] }) h
theorem n1_eq0 {R : Type} (k : Nat) (G : KT1 R) (σ : GS) (h : Heap) : KC k 33 c20 σ h (fun x σ h => kx x (n2 k G (σ 0) (σ 2) (σ 3) h) (G x (σ 2) h)) = n1 k G (σ 0) (σ 2) h := by kernel_rfl
theorem n1_eq {R : Type} (k : Nat) (G : KT1 R) (σ : GS) (h : Heap) : KC k 33 c1 σ h (fun x σ h => G x (σ 2) h) = n1 k G (σ 0) (σ 2) h := (kseq (b := c2) rfl (fun σ h => n2_eq k G σ h)).trans (n1_eq0 k G σ h)
noncomputable def c21 : Code := cL c0
@[simp] def n0 {R : Type} (k : Nat) (G : KT1 R) (v0 : GV) (h : Heap) : Option R := n1 k G v0 (.str { data := #[] }) h
theorem n0_eq0 {R : Type} (k : Nat) (G : KT1 R) (σ : GS) (h : Heap) : KC k 33 c21 σ h (fun x σ h => kx x (n1 k G (σ 0) (σ 2) h) (G x (σ 2) h)) = n0 k G (σ 0) h := by kernel_rfl
theorem n0_eq {R : Type} (k : Nat) (G : KT1 R) (σ : GS) (h : Heap) : KC k 33 c0 σ h (fun x σ h => G x (σ 2) h) = n0 k G (σ 0) h := (kseq (b := c1) rfl (fun σ h => n1_eq k G σ h)).trans (n0_eq0 k G σ h)
def run {R : Type} (k : Nat) (a0 : GV) (h : Heap) (fin : GV → Heap → Option R) : Option R := n0 k (fun x v2 h => kend x (fin v2 h)) a0 h
theorem run_eq {R : Type} (k : Nat) (a0 : GV) (h : Heap) (fin : GV → Heap → Option R) : kfun PP cfg NN HH k fn.spec_l3Int [a0] h fin = run k a0 h fin := (kfun_eq (nt := 33) (c := c0) (show PP.funcs[fn.spec_l3Int]? = some Tryd.f67 by kernel_rfl) (by kernel_rfl) (by kernel_rfl) (fun x σ h => by cases x <;> kernel_rfl)).trans (n0_eq k (fun x v2 h => kend x (fin v2 h)) _ h)
theorem gives {k : Nat} {a0 : GV} {v : GV} (e : run k a0 [] finN = some v) : NN fn.spec_l3Int [a0] = some v := nω_of (by kernel_rfl) ((run_eq k a0 [] finN).trans e)
end S.spec_l3Int
/-! impl_decimal -/
namespace S.impl_decimal
noncomputable def c0 : Code := bodyOf Tryd.f68
@[simp] def n0 {R : Type} (k : Nat) (G : KT1 R) (v0 : GV) (h : Heap) : Option R := (kN NN fn.strconv_FormatInt [v0, (.int .i64 10)] h).bind fun v4 => G .ret v4 h
theorem n0_eq {R : Type} (k : Nat) (G : KT1 R) (σ : GS) (h : Heap) : KC k 5 c0 σ h (fun x σ h => G x (σ 2) h) = n0 k G (σ 0) h := by kernel_rfl
def run {R : Type} (k : Nat) (a0 : GV) (h : Heap) (fin : GV → Heap → Option R) : Option R := n0 k (fun x v2 h => kend x (fin v2 h)) a0 h
theorem run_eq {R : Type} (k : Nat) (a0 : GV) (h : Heap) (fin : GV → Heap → Option R) : kfun PP cfg NN HH k fn.impl_decimal [a0] h fin = run k a0 h fin := (kfun_eq (nt := 5) (c := c0) (show PP.funcs[fn.impl_decimal]? = some Tryd.f68 by kernel_rfl) (by kernel_rfl) (by kernel_rfl) (fun x σ h => by cases x <;> kernel_rfl)).trans (n0_eq k (fun x v2 h => kend x (fin v2 h)) _ h)
theorem gives {k : Nat} {a0 : GV} {v : GV} (e : run k a0 [] finN = some v) : NN fn.impl_decimal [a0] = some v := nω_of (by kernel_rfl) ((run_eq k a0 [] finN).trans e)
end S.impl_decimal
/-! spec_l14Told -/
namespace S.spec_l14Told
noncomputable def c0 : Code := bodyOf Tryd.f69
noncomputable def c1 : Code := cR c0
noncomputable def c2 : Code := cR c1
@[simp] def n2 {R : Type} (k : Nat) (G : KT1 R) (v6 : GV) (h : Heap) : Option R := G .ret v6 h
theorem n2_eq {R : Type} (k : Nat) (G : KT1 R) (σ : GS) (h : Heap) : KC k 18 c2 σ h (fun x σ h => G x (σ 6) h) = n2 k G (σ 6) h := by kernel_rfl
noncomputable def c3 : Code := cL c1
noncomputable def o3 : Array Oper := cO c3
@[simp] def g3_4 {R : Type} (k : Nat) (G : KT1 R) (v14 v16 : GV) (h : Heap) : Option R := (kpick v14 v16 (.bool false)).bind fun v17 => G .nrm v17 h
theorem g3_4_eq {R : Type} (k : Nat) (G : KT1 R) (σ : GS) (h : Heap) : kgroups PP cfg NN HH 18 o3 [(none, [10, 11])] σ h (fun σ h => G .nrm (σ 6) h) = g3_4 k G (σ 14) (σ 16) h := by kernel_rfl
@[simp] def g3_3 {R : Type} (k : Nat) (G : KT1 R) (v2 v14 : GV) (h : Heap) : Option R := bif tr true v14 then (kbin .leq v2 (.int .i64 4000)).bind fun v16 => g3_4 k G v14 v16 h else g3_4 k G v14 .un h
theorem g3_3_eq0 {R : Type} (k : Nat) (G : KT1 R) (σ : GS) (h : Heap) : kgroup1 PP cfg NN HH 18 o3 (some (7, true), [8, 9]) σ h (fun σ h => g3_4 k G (σ 14) (σ 16) h) = g3_3 k G (σ 2) (σ 14) h := by kernel_rfl
theorem g3_3_eq {R : Type} (k : Nat) (G : KT1 R) (σ : GS) (h : Heap) : kgroups PP cfg NN HH 18 o3 [(some (7, true), [8, 9]), (none, [10, 11])] σ h (fun σ h => G .nrm (σ 6) h) = g3_3 k G (σ 2) (σ 14) h := (kgroups_cons (fun σ h => g3_4_eq k G σ h)).trans (g3_3_eq0 k G σ h)
@[simp] def g3_2 {R : Type} (k : Nat) (G : KT1 R) (v2 v10 v12 : GV) (h : Heap) : Option R := (kpick v10 v12 (.bool false)).bind fun v13 => g3_3 k G v2 v13 h
theorem g3_2_eq0 {R : Type} (k : Nat) (G : KT1 R) (σ : GS) (h : Heap) : kgroup1 PP cfg NN HH 18 o3 (none, [6, 7]) σ h (fun σ h => g3_3 k G (σ 2) (σ 14) h) = g3_2 k G (σ 2) (σ 10) (σ 12) h := by kernel_rfl
theorem g3_2_eq {R : Type} (k : Nat) (G : KT1 R) (σ : GS) (h : Heap) : kgroups PP cfg NN HH 18 o3 [(none, [6, 7]), (some (7, true), [8, 9]), (none, [10, 11])] σ h (fun σ h => G .nrm (σ 6) h) = g3_2 k G (σ 2) (σ 10) (σ 12) h := (kgroups_cons (fun σ h => g3_3_eq k G σ h)).trans (g3_2_eq0 k G σ h)
@[simp] def g3_1 {R : Type} (k : Nat) (G : KT1 R) (v1 v2 v10 : GV) (h : Heap) : Option R := bif tr true v10 then (kN NN fn.spec_l1In [v1, (.int .i64 0), (.int .i64 1099511627776)] h).bind fun v12 => g3_2 k G v2 v10 v12 h else g3_2 k G v2 v10 .un h
theorem g3_1_eq0 {R : Type} (k : Nat) (G : KT1 R) (σ : GS) (h : Heap) : kgroup1 PP cfg NN HH 18 o3 (some (3, true), [4, 5]) σ h (fun σ h => g3_2 k G (σ 2) (σ 10) (σ 12) h) = g3_1 k G (σ 1) (σ 2) (σ 10) h := by kernel_rfl
theorem g3_1_eq {R : Type} (k : Nat) (G : KT1 R) (σ : GS) (h : Heap) : kgroups PP cfg NN HH 18 o3 [(some (3, true), [4, 5]), (none, [6, 7]), (some (7, true), [8, 9]), (none, [10, 11])] σ h (fun σ h => G .nrm (σ 6) h) = g3_1 k G (σ 1) (σ 2) (σ 10) h := (kgroups_cons (fun σ h => g3_2_eq k G σ h)).trans (g3_1_eq0 k G σ h)
@[simp] def g3_0 {R : Type} (k : Nat) (G : KT1 R) (v0 v1 v2 : GV) (h : Heap) : Option R := (klenS v0).bind fun v8 => (kbin .eql v8 (.int .i64 16)).bind fun v9 => g3_1 k G v1 v2 v9 h
theorem g3_0_eq0 {R : Type} (k : Nat) (G : KT1 R) (σ : GS) (h : Heap) : kgroup1 PP cfg NN HH 18 o3 (none, [0, 1, 2, 3]) σ h (fun σ h => g3_1 k G (σ 1) (σ 2) (σ 10) h) = g3_0 k G (σ 0) (σ 1) (σ 2) h := by kernel_rfl
theorem g3_0_eq {R : Type} (k : Nat) (G : KT1 R) (σ : GS) (h : Heap) : kgroups PP cfg NN HH 18 o3 [(none, [0, 1, 2, 3]), (some (3, true), [4, 5]), (none, [6, 7]), (some (7, true), [8, 9]), (none, [10, 11])] σ h (fun σ h => G .nrm (σ 6) h) = g3_0 k G (σ 0) (σ 1) (σ 2) h := (kgroups_cons (fun σ h => g3_1_eq k G σ h)).trans (g3_0_eq0 k G σ h)
@[simp] def n3 {R : Type} (k : Nat) (G : KT1 R) (v0 v1 v2 : GV) (h : Heap) : Option R := g3_0 k G v0 v1 v2 h
theorem n3_eq {R : Type} (k : Nat) (G : KT1 R) (σ : GS) (h : Heap) : KC k 18 c3 σ h (fun x σ h => G x (σ 6) h) = n3 k G (σ 0) (σ 1) (σ 2) h := (kregion_eq (id := 1) (draw := false) (ops := o3) (gs := [(none, [0, 1, 2, 3]), (some (3, true), [4, 5]), (none, [6, 7]), (some (7, true), [8, 9]), (none, [10, 11])]) (by kernel_rfl) (by kernel_rfl) (by kernel_rfl)).trans (g3_0_eq k G σ h)
@[simp] def n1 {R : Type} (k : Nat) (G : KT1 R) (v0 v1 v2 : GV) (h : Heap) : Option R := n3 k (fun x v6 h => kx x (n2 k G v6 h) (G x v6 h)) v0 v1 v2 h
theorem n1_eq {R : Type} (k : Nat) (G : KT1 R) (σ : GS) (h : Heap) : KC k 18 c1 σ h (fun x σ h => G x (σ 6) h) = n1 k G (σ 0) (σ 1) (σ 2) h := (kseq (b := c2) rfl (fun σ h => n2_eq k G σ h)).trans (n3_eq k (fun x v6 h => kx x (n2 k G v6 h) (G x v6 h)) σ h)
noncomputable def c4 : Code := cL c0
@[simp] def n0 {R : Type} (k : Nat) (G : KT1 R) (v0 v1 v2 : GV) (h : Heap) : Option R := n1 k G v0 v1 v2 h
theorem n0_eq0 {R : Type} (k : Nat) (G : KT1 R) (σ : GS) (h : Heap) : KC k 18 c4 σ h (fun x σ h => kx x (n1 k G (σ 0) (σ 1) (σ 2) h) (G x (σ 6) h)) = n0 k G (σ 0) (σ 1) (σ 2) h := by kernel_rfl
theorem n0_eq {R : Type} (k : Nat) (G : KT1 R) (σ : GS) (h : Heap) : KC k 18 c0 σ h (fun x σ h => G x (σ 6) h) = n0 k G (σ 0) (σ 1) (σ 2) h := (kseq (b := c1) rfl (fun σ h => n1_eq k G σ h)).trans (n0_eq0 k G σ h)
def run {R : Type} (k : Nat) (a0 : GV) (a1 : GV) (a2 : GV) (h : Heap) (fin : GV → Heap → Option R) : Option R := n0 k (fun x v6 h => kend x (fin v6 h)) a0 a1 a2 h
theorem run_eq {R : Type} (k : Nat) (a0 : GV) (a1 : GV) (a2 : GV) (h : Heap) (fin : GV → Heap → Option R) : kfun PP cfg NN HH k fn.spec_l14Told [a0, a1, a2] h fin = run k a0 a1 a2 h fin := (kfun_eq (nt := 18) (c := c0) (show PP.funcs[fn.spec_l14Told]? = some Tryd.f69 by kernel_rfl) (by kernel_rfl) (by kernel_rfl) (fun x σ h => by cases x <;> kernel_rfl)).trans (n0_eq k (fun x v6 h => kend x (fin v6 h)) _ h)
theorem gives {k : Nat} {a0 : GV} {a1 : GV} {a2 : GV} {v : GV} (e : run k a0 a1 a2 [] finN = some v) : NN fn.spec_l14Told [a0, a1, a2] = some v := nω_of (by kernel_rfl) ((run_eq k a0 a1 a2 [] finN).trans e)
end S.spec_l14Told
/-! spec_l14Xor -/
namespace S.spec_l14Xor
noncomputable def c0 : Code := bodyOf Tryd.f70
noncomputable def c1 : Code := cR c0
noncomputable def c2 : Code := cR c1
noncomputable def c3 : Code := cR c2
@[simp] def n3 {R : Type} (k : Nat) (G : KT1 R) (v5 : GV) (h : Heap) : Option R := (kbstr h v5).bind fun v27 => G .ret v27 h
theorem n3_eq {R : Type} (k : Nat) (G : KT1 R) (σ : GS) (h : Heap) : KC k 28 c3 σ h (fun x σ h => G x (σ 4) h) = n3 k G (σ 5) h := by kernel_rfl
noncomputable def c4 : Code := cL c2
noncomputable def c5 : Code := cR c4
noncomputable def c6 : Code := cL c5
noncomputable def c7 : Code := cL c6
noncomputable def c8 : Code := cR c7
noncomputable def c9 : Code := cR c8
@[simp] def n9 {R : Type} (k : Nat) (G : KT4 R) (v1 v4 v5 v6 : GV) (h : Heap) : Option R := (kbin .add v6 (.int .i64 1)).bind fun v14 => G .nrm v1 v4 v5 v14 h
theorem n9_eq {R : Type} (k : Nat) (G : KT4 R) (σ : GS) (h : Heap) : KC k 28 c9 σ h (fun x σ h => G x (σ 1) (σ 4) (σ 5) (σ 6) h) = n9 k G (σ 1) (σ 4) (σ 5) (σ 6) h := by kernel_rfl
noncomputable def c10 : Code := cL c8
noncomputable def c11 : Code := cL c10
@[simp] def n11 {R : Type} (k : Nat) (G : KT4 R) (v1 v4 v5 v6 : GV) (h : Heap) : Option R := (kia 1 v5 v6).bind fun v19 => (kload1 h v19).bind fun v20 => (kbyte v1 v6).bind fun v23 => (kbin .xor v20 v23).bind fun v24 => (kia 1 v5 v6).bind fun v25 => (kstore 1 h v25 v24).bind fun h => G .nrm v1 v4 v5 v6 h
theorem n11_eq {R : Type} (k : Nat) (G : KT4 R) (σ : GS) (h : Heap) : KC k 28 c11 σ h (fun x σ h => G x (σ 1) (σ 4) (σ 5) (σ 6) h) = n11 k G (σ 1) (σ 4) (σ 5) (σ 6) h := by kernel_rfl
@[simp] def n10 {R : Type} (k : Nat) (G : KT4 R) (v1 v4 v5 v6 : GV) (h : Heap) : Option R := n11 k (fun x v1 v4 v5 v6 h => kb 1 x fun x => G x v1 v4 v5 v6 h) v1 v4 v5 v6 h
theorem n10_eq {R : Type} (k : Nat) (G : KT4 R) (σ : GS) (h : Heap) : KC k 28 c10 σ h (fun x σ h => G x (σ 1) (σ 4) (σ 5) (σ 6) h) = n10 k G (σ 1) (σ 4) (σ 5) (σ 6) h := (kblock_eq (a := c11) rfl).trans (n11_eq k (fun x v1 v4 v5 v6 h => kb 1 x fun x => G x v1 v4 v5 v6 h) σ h)
@[simp] def n8 {R : Type} (k : Nat) (G : KT4 R) (v1 v4 v5 v6 : GV) (h : Heap) : Option R := n10 k (fun x v1 v4 v5 v6 h => kx x (n9 k G v1 v4 v5 v6 h) (G x v1 v4 v5 v6 h)) v1 v4 v5 v6 h
theorem n8_eq {R : Type} (k : Nat) (G : KT4 R) (σ : GS) (h : Heap) : KC k 28 c8 σ h (fun x σ h => G x (σ 1) (σ 4) (σ 5) (σ 6) h) = n8 k G (σ 1) (σ 4) (σ 5) (σ 6) h := (kseq (b := c9) rfl (fun σ h => n9_eq k G σ h)).trans (n10_eq k (fun x v1 v4 v5 v6 h => kx x (n9 k G v1 v4 v5 v6 h) (G x v1 v4 v5 v6 h)) σ h)
noncomputable def c12 : Code := cL c7
@[simp] def n7 {R : Type} (k : Nat) (G : KT4 R) (v1 v4 v5 v6 : GV) (h : Heap) : Option R := (klen v5).bind fun v11 => (kbin .lss v6 v11).bind fun v12 => kcond v12 (n8 k G v1 v4 v5 v6 h) (G (.ext 0) v1 v4 v5 v6 h)
theorem n7_eq0 {R : Type} (k : Nat) (G : KT4 R) (σ : GS) (h : Heap) : KC k 28 c12 σ h (fun x σ h => kx x (n8 k G (σ 1) (σ 4) (σ 5) (σ 6) h) (G x (σ 1) (σ 4) (σ 5) (σ 6) h)) = n7 k G (σ 1) (σ 4) (σ 5) (σ 6) h := by kernel_rfl
theorem n7_eq {R : Type} (k : Nat) (G : KT4 R) (σ : GS) (h : Heap) : KC k 28 c7 σ h (fun x σ h => G x (σ 1) (σ 4) (σ 5) (σ 6) h) = n7 k G (σ 1) (σ 4) (σ 5) (σ 6) h := (kseq (b := c8) rfl (fun σ h => n8_eq k G σ h)).trans (n7_eq0 k G σ h)
def l6 {R : Type} (k : Nat) (G : KT2 R) : Nat → GV → GV → GV → GV → Heap → Option R
  | 0, _, _, _, _, _ => none
  | r + 1, v1, v4, v5, v6, h => n7 k (fun x v1 v4 v5 v6 h => kx x (l6 k G r v1 v4 v5 v6 h) (G x v4 v5 h)) v1 v4 v5 v6 h
theorem l6_eq {R : Type} (k : Nat) (G : KT2 R) : ∀ (r : Nat) (σ : GS) (h : Heap), kloop (fun σ h K => KC k 28 c7 σ h K) r σ h (fun x σ h => G x (σ 4) (σ 5) h) = l6 k G r (σ 1) (σ 4) (σ 5) (σ 6) h
  | 0, _, _ => rfl
  | r + 1, σ, h => (kloop_eq (fun σ h => l6_eq k G r σ h)).trans (n7_eq k (fun x v1 v4 v5 v6 h => kx x (l6 k G r v1 v4 v5 v6 h) (G x v4 v5 h)) σ h)
@[simp] def n6 {R : Type} (k : Nat) (G : KT2 R) (v1 v4 v5 v6 : GV) (h : Heap) : Option R := l6 k G k v1 v4 v5 v6 h
theorem n6_eq {R : Type} (k : Nat) (G : KT2 R) (σ : GS) (h : Heap) : KC k 28 c6 σ h (fun x σ h => G x (σ 4) (σ 5) h) = n6 k G (σ 1) (σ 4) (σ 5) (σ 6) h := (kloopc_eq (a := c7) rfl).trans (l6_eq k G k σ h)
@[simp] def n5 {R : Type} (k : Nat) (G : KT2 R) (v1 v4 v5 v6 : GV) (h : Heap) : Option R := n6 k (fun x v4 v5 h => kb 0 x fun x => G x v4 v5 h) v1 v4 v5 v6 h
theorem n5_eq {R : Type} (k : Nat) (G : KT2 R) (σ : GS) (h : Heap) : KC k 28 c5 σ h (fun x σ h => G x (σ 4) (σ 5) h) = n5 k G (σ 1) (σ 4) (σ 5) (σ 6) h := (kblock_eq (a := c6) rfl).trans (n6_eq k (fun x v4 v5 h => kb 0 x fun x => G x v4 v5 h) σ h)
noncomputable def c13 : Code := cL c4
@[simp] def n4 {R : Type} (k : Nat) (G : KT2 R) (v1 v4 v5 : GV) (h : Heap) : Option R := n5 k G v1 v4 v5 (.int .i64 0) h
theorem n4_eq0 {R : Type} (k : Nat) (G : KT2 R) (σ : GS) (h : Heap) : KC k 28 c13 σ h (fun x σ h => kx x (n5 k G (σ 1) (σ 4) (σ 5) (σ 6) h) (G x (σ 4) (σ 5) h)) = n4 k G (σ 1) (σ 4) (σ 5) h := by kernel_rfl
theorem n4_eq {R : Type} (k : Nat) (G : KT2 R) (σ : GS) (h : Heap) : KC k 28 c4 σ h (fun x σ h => G x (σ 4) (σ 5) h) = n4 k G (σ 1) (σ 4) (σ 5) h := (kseq (b := c5) rfl (fun σ h => n5_eq k G σ h)).trans (n4_eq0 k G σ h)
@[simp] def n2 {R : Type} (k : Nat) (G : KT1 R) (v1 v4 v5 : GV) (h : Heap) : Option R := n4 k (fun x v4 v5 h => kx x (n3 k G v5 h) (G x v4 h)) v1 v4 v5 h
theorem n2_eq {R : Type} (k : Nat) (G : KT1 R) (σ : GS) (h : Heap) : KC k 28 c2 σ h (fun x σ h => G x (σ 4) h) = n2 k G (σ 1) (σ 4) (σ 5) h := (kseq (b := c3) rfl (fun σ h => n3_eq k G σ h)).trans (n4_eq k (fun x v4 v5 h => kx x (n3 k G v5 h) (G x v4 h)) σ h)
noncomputable def c14 : Code := cL c1
@[simp] def n1 {R : Type} (k : Nat) (G : KT1 R) (v0 v1 v4 : GV) (h : Heap) : Option R := (kstr v0).bind fun s => kby s h fun v8 h => n2 k G v1 v4 v8 h
theorem n1_eq0 {R : Type} (k : Nat) (G : KT1 R) (σ : GS) (h : Heap) : KC k 28 c14 σ h (fun x σ h => kx x (n2 k G (σ 1) (σ 4) (σ 5) h) (G x (σ 4) h)) = n1 k G (σ 0) (σ 1) (σ 4) h := by kernel_rfl
theorem n1_eq {R : Type} (k : Nat) (G : KT1 R) (σ : GS) (h : Heap) : KC k 28 c1 σ h (fun x σ h => G x (σ 4) h) = n1 k G (σ 0) (σ 1) (σ 4) h := (kseq (b := c2) rfl (fun σ h => n2_eq k G σ h)).trans (n1_eq0 k G σ h)
noncomputable def c15 : Code := cL c0
@[simp] def n0 {R : Type} (k : Nat) (G : KT1 R) (v0 v1 : GV) (h : Heap) : Option R := n1 k G v0 v1 (.str { data := #[] }) h
theorem n0_eq0 {R : Type} (k : Nat) (G : KT1 R) (σ : GS) (h : Heap) : KC k 28 c15 σ h (fun x σ h => kx x (n1 k G (σ 0) (σ 1) (σ 4) h) (G x (σ 4) h)) = n0 k G (σ 0) (σ 1) h := by kernel_rfl
theorem n0_eq {R : Type} (k : Nat) (G : KT1 R) (σ : GS) (h : Heap) : KC k 28 c0 σ h (fun x σ h => G x (σ 4) h) = n0 k G (σ 0) (σ 1) h := (kseq (b := c1) rfl (fun σ h => n1_eq k G σ h)).trans (n0_eq0 k G σ h)
def run {R : Type} (k : Nat) (a0 : GV) (a1 : GV) (h : Heap) (fin : GV → Heap → Option R) : Option R := n0 k (fun x v4 h => kend x (fin v4 h)) a0 a1 h
theorem run_eq {R : Type} (k : Nat) (a0 : GV) (a1 : GV) (h : Heap) (fin : GV → Heap → Option R) : kfun PP cfg NN HH k fn.spec_l14Xor [a0, a1] h fin = run k a0 a1 h fin := (kfun_eq (nt := 28) (c := c0) (show PP.funcs[fn.spec_l14Xor]? = some Tryd.f70 by kernel_rfl) (by kernel_rfl) (by kernel_rfl) (fun x σ h => by cases x <;> kernel_rfl)).trans (n0_eq k (fun x v4 h => kend x (fin v4 h)) _ h)
theorem gives {k : Nat} {a0 : GV} {a1 : GV} {v : GV} (e : run k a0 a1 [] finN = some v) : NN fn.spec_l14Xor [a0, a1] = some v := nω_of (by kernel_rfl) ((run_eq k a0 a1 [] finN).trans e)
end S.spec_l14Xor
/-! impl_isSeal -/
namespace S.impl_isSeal
noncomputable def c0 : Code := bodyOf Tryd.f71
noncomputable def c1 : Code := cR c0
noncomputable def c2 : Code := cR c1
@[simp] def n2 {R : Type} (k : Nat) (G : KT1 R) (v6 : GV) (h : Heap) : Option R := G .ret v6 h
theorem n2_eq {R : Type} (k : Nat) (G : KT1 R) (σ : GS) (h : Heap) : KC k 18 c2 σ h (fun x σ h => G x (σ 6) h) = n2 k G (σ 6) h := by kernel_rfl
noncomputable def c3 : Code := cL c1
noncomputable def o3 : Array Oper := cO c3
@[simp] def g3_4 {R : Type} (k : Nat) (G : KT1 R) (v14 v16 : GV) (h : Heap) : Option R := (kpick v14 v16 (.bool false)).bind fun v17 => G .nrm v17 h
theorem g3_4_eq {R : Type} (k : Nat) (G : KT1 R) (σ : GS) (h : Heap) : kgroups PP cfg NN HH 18 o3 [(none, [10, 11])] σ h (fun σ h => G .nrm (σ 6) h) = g3_4 k G (σ 14) (σ 16) h := by kernel_rfl
@[simp] def g3_3 {R : Type} (k : Nat) (G : KT1 R) (v2 v14 : GV) (h : Heap) : Option R := bif tr true v14 then (kN NN fn.impl_in [v2, (.int .i64 0), (.int .i64 4000)] h).bind fun v16 => g3_4 k G v14 v16 h else g3_4 k G v14 .un h
theorem g3_3_eq0 {R : Type} (k : Nat) (G : KT1 R) (σ : GS) (h : Heap) : kgroup1 PP cfg NN HH 18 o3 (some (7, true), [8, 9]) σ h (fun σ h => g3_4 k G (σ 14) (σ 16) h) = g3_3 k G (σ 2) (σ 14) h := by kernel_rfl
theorem g3_3_eq {R : Type} (k : Nat) (G : KT1 R) (σ : GS) (h : Heap) : kgroups PP cfg NN HH 18 o3 [(some (7, true), [8, 9]), (none, [10, 11])] σ h (fun σ h => G .nrm (σ 6) h) = g3_3 k G (σ 2) (σ 14) h := (kgroups_cons (fun σ h => g3_4_eq k G σ h)).trans (g3_3_eq0 k G σ h)
@[simp] def g3_2 {R : Type} (k : Nat) (G : KT1 R) (v2 v10 v12 : GV) (h : Heap) : Option R := (kpick v10 v12 (.bool false)).bind fun v13 => g3_3 k G v2 v13 h
theorem g3_2_eq0 {R : Type} (k : Nat) (G : KT1 R) (σ : GS) (h : Heap) : kgroup1 PP cfg NN HH 18 o3 (none, [6, 7]) σ h (fun σ h => g3_3 k G (σ 2) (σ 14) h) = g3_2 k G (σ 2) (σ 10) (σ 12) h := by kernel_rfl
theorem g3_2_eq {R : Type} (k : Nat) (G : KT1 R) (σ : GS) (h : Heap) : kgroups PP cfg NN HH 18 o3 [(none, [6, 7]), (some (7, true), [8, 9]), (none, [10, 11])] σ h (fun σ h => G .nrm (σ 6) h) = g3_2 k G (σ 2) (σ 10) (σ 12) h := (kgroups_cons (fun σ h => g3_3_eq k G σ h)).trans (g3_2_eq0 k G σ h)
@[simp] def g3_1 {R : Type} (k : Nat) (G : KT1 R) (v1 v2 v10 : GV) (h : Heap) : Option R := bif tr true v10 then (kN NN fn.impl_in [v1, (.int .i64 0), (.int .i64 1099511627776)] h).bind fun v12 => g3_2 k G v2 v10 v12 h else g3_2 k G v2 v10 .un h
theorem g3_1_eq0 {R : Type} (k : Nat) (G : KT1 R) (σ : GS) (h : Heap) : kgroup1 PP cfg NN HH 18 o3 (some (3, true), [4, 5]) σ h (fun σ h => g3_2 k G (σ 2) (σ 10) (σ 12) h) = g3_1 k G (σ 1) (σ 2) (σ 10) h := by kernel_rfl
theorem g3_1_eq {R : Type} (k : Nat) (G : KT1 R) (σ : GS) (h : Heap) : kgroups PP cfg NN HH 18 o3 [(some (3, true), [4, 5]), (none, [6, 7]), (some (7, true), [8, 9]), (none, [10, 11])] σ h (fun σ h => G .nrm (σ 6) h) = g3_1 k G (σ 1) (σ 2) (σ 10) h := (kgroups_cons (fun σ h => g3_2_eq k G σ h)).trans (g3_1_eq0 k G σ h)
@[simp] def g3_0 {R : Type} (k : Nat) (G : KT1 R) (v0 v1 v2 : GV) (h : Heap) : Option R := (klenS v0).bind fun v8 => (kbin .eql v8 (.int .i64 16)).bind fun v9 => g3_1 k G v1 v2 v9 h
theorem g3_0_eq0 {R : Type} (k : Nat) (G : KT1 R) (σ : GS) (h : Heap) : kgroup1 PP cfg NN HH 18 o3 (none, [0, 1, 2, 3]) σ h (fun σ h => g3_1 k G (σ 1) (σ 2) (σ 10) h) = g3_0 k G (σ 0) (σ 1) (σ 2) h := by kernel_rfl
theorem g3_0_eq {R : Type} (k : Nat) (G : KT1 R) (σ : GS) (h : Heap) : kgroups PP cfg NN HH 18 o3 [(none, [0, 1, 2, 3]), (some (3, true), [4, 5]), (none, [6, 7]), (some (7, true), [8, 9]), (none, [10, 11])] σ h (fun σ h => G .nrm (σ 6) h) = g3_0 k G (σ 0) (σ 1) (σ 2) h := (kgroups_cons (fun σ h => g3_1_eq k G σ h)).trans (g3_0_eq0 k G σ h)
@[simp] def n3 {R : Type} (k : Nat) (G : KT1 R) (v0 v1 v2 : GV) (h : Heap) : Option R := g3_0 k G v0 v1 v2 h
theorem n3_eq {R : Type} (k : Nat) (G : KT1 R) (σ : GS) (h : Heap) : KC k 18 c3 σ h (fun x σ h => G x (σ 6) h) = n3 k G (σ 0) (σ 1) (σ 2) h := (kregion_eq (id := 1) (draw := false) (ops := o3) (gs := [(none, [0, 1, 2, 3]), (some (3, true), [4, 5]), (none, [6, 7]), (some (7, true), [8, 9]), (none, [10, 11])]) (by kernel_rfl) (by kernel_rfl) (by kernel_rfl)).trans (g3_0_eq k G σ h)
@[simp] def n1 {R : Type} (k : Nat) (G : KT1 R) (v0 v1 v2 : GV) (h : Heap) : Option R := n3 k (fun x v6 h => kx x (n2 k G v6 h) (G x v6 h)) v0 v1 v2 h
theorem n1_eq {R : Type} (k : Nat) (G : KT1 R) (σ : GS) (h : Heap) : KC k 18 c1 σ h (fun x σ h => G x (σ 6) h) = n1 k G (σ 0) (σ 1) (σ 2) h := (kseq (b := c2) rfl (fun σ h => n2_eq k G σ h)).trans (n3_eq k (fun x v6 h => kx x (n2 k G v6 h) (G x v6 h)) σ h)
noncomputable def c4 : Code := cL c0
@[simp] def n0 {R : Type} (k : Nat) (G : KT1 R) (v0 v1 v2 : GV) (h : Heap) : Option R := n1 k G v0 v1 v2 h
theorem n0_eq0 {R : Type} (k : Nat) (G : KT1 R) (σ : GS) (h : Heap) : KC k 18 c4 σ h (fun x σ h => kx x (n1 k G (σ 0) (σ 1) (σ 2) h) (G x (σ 6) h)) = n0 k G (σ 0) (σ 1) (σ 2) h := by kernel_rfl
theorem n0_eq {R : Type} (k : Nat) (G : KT1 R) (σ : GS) (h : Heap) : KC k 18 c0 σ h (fun x σ h => G x (σ 6) h) = n0 k G (σ 0) (σ 1) (σ 2) h := (kseq (b := c1) rfl (fun σ h => n1_eq k G σ h)).trans (n0_eq0 k G σ h)
def run {R : Type} (k : Nat) (a0 : GV) (a1 : GV) (a2 : GV) (h : Heap) (fin : GV → Heap → Option R) : Option R := n0 k (fun x v6 h => kend x (fin v6 h)) a0 a1 a2 h
theorem run_eq {R : Type} (k : Nat) (a0 : GV) (a1 : GV) (a2 : GV) (h : Heap) (fin : GV → Heap → Option R) : kfun PP cfg NN HH k fn.impl_isSeal [a0, a1, a2] h fin = run k a0 a1 a2 h fin := (kfun_eq (nt := 18) (c := c0) (show PP.funcs[fn.impl_isSeal]? = some Tryd.f71 by kernel_rfl) (by kernel_rfl) (by kernel_rfl) (fun x σ h => by cases x <;> kernel_rfl)).trans (n0_eq k (fun x v6 h => kend x (fin v6 h)) _ h)
theorem gives {k : Nat} {a0 : GV} {a1 : GV} {a2 : GV} {v : GV} (e : run k a0 a1 a2 [] finN = some v) : NN fn.impl_isSeal [a0, a1, a2] = some v := nω_of (by kernel_rfl) ((run_eq k a0 a1 a2 [] finN).trans e)
end S.impl_isSeal
/-! impl_xored -/
namespace S.impl_xored
noncomputable def c0 : Code := bodyOf Tryd.f72
noncomputable def c1 : Code := cR c0
noncomputable def c2 : Code := cR c1
noncomputable def c3 : Code := cR c2
@[simp] def n3 {R : Type} (k : Nat) (G : KT1 R) (v7 : GV) (h : Heap) : Option R := (kbstr h v7).bind fun v31 => G .ret v31 h
theorem n3_eq {R : Type} (k : Nat) (G : KT1 R) (σ : GS) (h : Heap) : KC k 32 c3 σ h (fun x σ h => G x (σ 6) h) = n3 k G (σ 7) h := by kernel_rfl
noncomputable def c4 : Code := cL c2
noncomputable def c5 : Code := cR c4
noncomputable def c6 : Code := cL c5
noncomputable def c7 : Code := cL c6
noncomputable def c8 : Code := cR c7
noncomputable def c9 : Code := cR c8
noncomputable def c10 : Code := cR c9
@[simp] def n10 {R : Type} (k : Nat) (G : KT5 R) (v2 v6 v7 v16 v17 : GV) (h : Heap) : Option R := (kbin .add v17 (.int .i64 1)).bind fun v29 => G .nrm v2 v6 v7 v16 v29 h
theorem n10_eq {R : Type} (k : Nat) (G : KT5 R) (σ : GS) (h : Heap) : KC k 32 c10 σ h (fun x σ h => G x (σ 2) (σ 6) (σ 7) (σ 16) (σ 17) h) = n10 k G (σ 2) (σ 6) (σ 7) (σ 16) (σ 17) h := by kernel_rfl
noncomputable def c11 : Code := cL c9
noncomputable def c12 : Code := cL c11
@[simp] def n12 {R : Type} (k : Nat) (G : KT5 R) (v2 v6 v7 v16 v17 : GV) (h : Heap) : Option R := (kia 1 v7 v17).bind fun v22 => (kload1 h v22).bind fun v23 => (kbyte v2 v17).bind fun v26 => (kbin .xor v23 v26).bind fun v27 => (kia 1 v7 v17).bind fun v28 => (kstore 1 h v28 v27).bind fun h => G .nrm v2 v6 v7 v16 v17 h
theorem n12_eq {R : Type} (k : Nat) (G : KT5 R) (σ : GS) (h : Heap) : KC k 32 c12 σ h (fun x σ h => G x (σ 2) (σ 6) (σ 7) (σ 16) (σ 17) h) = n12 k G (σ 2) (σ 6) (σ 7) (σ 16) (σ 17) h := by kernel_rfl
@[simp] def n11 {R : Type} (k : Nat) (G : KT5 R) (v2 v6 v7 v16 v17 : GV) (h : Heap) : Option R := n12 k (fun x v2 v6 v7 v16 v17 h => kb 1 x fun x => G x v2 v6 v7 v16 v17 h) v2 v6 v7 v16 v17 h
theorem n11_eq {R : Type} (k : Nat) (G : KT5 R) (σ : GS) (h : Heap) : KC k 32 c11 σ h (fun x σ h => G x (σ 2) (σ 6) (σ 7) (σ 16) (σ 17) h) = n11 k G (σ 2) (σ 6) (σ 7) (σ 16) (σ 17) h := (kblock_eq (a := c12) rfl).trans (n12_eq k (fun x v2 v6 v7 v16 v17 h => kb 1 x fun x => G x v2 v6 v7 v16 v17 h) σ h)
@[simp] def n9 {R : Type} (k : Nat) (G : KT5 R) (v2 v6 v7 v16 v17 : GV) (h : Heap) : Option R := n11 k (fun x v2 v6 v7 v16 v17 h => kx x (n10 k G v2 v6 v7 v16 v17 h) (G x v2 v6 v7 v16 v17 h)) v2 v6 v7 v16 v17 h
theorem n9_eq {R : Type} (k : Nat) (G : KT5 R) (σ : GS) (h : Heap) : KC k 32 c9 σ h (fun x σ h => G x (σ 2) (σ 6) (σ 7) (σ 16) (σ 17) h) = n9 k G (σ 2) (σ 6) (σ 7) (σ 16) (σ 17) h := (kseq (b := c10) rfl (fun σ h => n10_eq k G σ h)).trans (n11_eq k (fun x v2 v6 v7 v16 v17 h => kx x (n10 k G v2 v6 v7 v16 v17 h) (G x v2 v6 v7 v16 v17 h)) σ h)
noncomputable def c13 : Code := cL c8
@[simp] def n8 {R : Type} (k : Nat) (G : KT5 R) (v2 v6 v7 v16 v17 v18 : GV) (h : Heap) : Option R := kcond v18 (n9 k G v2 v6 v7 v16 v17 h) (G (.ext 0) v2 v6 v7 v16 v17 h)
theorem n8_eq0 {R : Type} (k : Nat) (G : KT5 R) (σ : GS) (h : Heap) : KC k 32 c13 σ h (fun x σ h => kx x (n9 k G (σ 2) (σ 6) (σ 7) (σ 16) (σ 17) h) (G x (σ 2) (σ 6) (σ 7) (σ 16) (σ 17) h)) = n8 k G (σ 2) (σ 6) (σ 7) (σ 16) (σ 17) (σ 18) h := by kernel_rfl
theorem n8_eq {R : Type} (k : Nat) (G : KT5 R) (σ : GS) (h : Heap) : KC k 32 c8 σ h (fun x σ h => G x (σ 2) (σ 6) (σ 7) (σ 16) (σ 17) h) = n8 k G (σ 2) (σ 6) (σ 7) (σ 16) (σ 17) (σ 18) h := (kseq (b := c9) rfl (fun σ h => n9_eq k G σ h)).trans (n8_eq0 k G σ h)
noncomputable def c14 : Code := cL c7
@[simp] def n7 {R : Type} (k : Nat) (G : KT5 R) (v2 v6 v7 v16 v17 : GV) (h : Heap) : Option R := (kbin .lss v17 v16).bind fun v18 => n8 k G v2 v6 v7 v16 v17 v18 h
theorem n7_eq0 {R : Type} (k : Nat) (G : KT5 R) (σ : GS) (h : Heap) : KC k 32 c14 σ h (fun x σ h => kx x (n8 k G (σ 2) (σ 6) (σ 7) (σ 16) (σ 17) (σ 18) h) (G x (σ 2) (σ 6) (σ 7) (σ 16) (σ 17) h)) = n7 k G (σ 2) (σ 6) (σ 7) (σ 16) (σ 17) h := by kernel_rfl
theorem n7_eq {R : Type} (k : Nat) (G : KT5 R) (σ : GS) (h : Heap) : KC k 32 c7 σ h (fun x σ h => G x (σ 2) (σ 6) (σ 7) (σ 16) (σ 17) h) = n7 k G (σ 2) (σ 6) (σ 7) (σ 16) (σ 17) h := (kseq (b := c8) rfl (fun σ h => n8_eq k G σ h)).trans (n7_eq0 k G σ h)
def l6 {R : Type} (k : Nat) (G : KT2 R) : Nat → GV → GV → GV → GV → GV → Heap → Option R
  | 0, _, _, _, _, _, _ => none
  | r + 1, v2, v6, v7, v16, v17, h => n7 k (fun x v2 v6 v7 v16 v17 h => kx x (l6 k G r v2 v6 v7 v16 v17 h) (G x v6 v7 h)) v2 v6 v7 v16 v17 h
theorem l6_eq {R : Type} (k : Nat) (G : KT2 R) : ∀ (r : Nat) (σ : GS) (h : Heap), kloop (fun σ h K => KC k 32 c7 σ h K) r σ h (fun x σ h => G x (σ 6) (σ 7) h) = l6 k G r (σ 2) (σ 6) (σ 7) (σ 16) (σ 17) h
  | 0, _, _ => rfl
  | r + 1, σ, h => (kloop_eq (fun σ h => l6_eq k G r σ h)).trans (n7_eq k (fun x v2 v6 v7 v16 v17 h => kx x (l6 k G r v2 v6 v7 v16 v17 h) (G x v6 v7 h)) σ h)
@[simp] def n6 {R : Type} (k : Nat) (G : KT2 R) (v2 v6 v7 v16 v17 : GV) (h : Heap) : Option R := l6 k G k v2 v6 v7 v16 v17 h
theorem n6_eq {R : Type} (k : Nat) (G : KT2 R) (σ : GS) (h : Heap) : KC k 32 c6 σ h (fun x σ h => G x (σ 6) (σ 7) h) = n6 k G (σ 2) (σ 6) (σ 7) (σ 16) (σ 17) h := (kloopc_eq (a := c7) rfl).trans (l6_eq k G k σ h)
@[simp] def n5 {R : Type} (k : Nat) (G : KT2 R) (v2 v6 v7 v16 v17 : GV) (h : Heap) : Option R := n6 k (fun x v6 v7 h => kb 0 x fun x => G x v6 v7 h) v2 v6 v7 v16 v17 h
theorem n5_eq {R : Type} (k : Nat) (G : KT2 R) (σ : GS) (h : Heap) : KC k 32 c5 σ h (fun x σ h => G x (σ 6) (σ 7) h) = n5 k G (σ 2) (σ 6) (σ 7) (σ 16) (σ 17) h := (kblock_eq (a := c6) rfl).trans (n6_eq k (fun x v6 v7 h => kb 0 x fun x => G x v6 v7 h) σ h)
noncomputable def c15 : Code := cL c4
@[simp] def n4 {R : Type} (k : Nat) (G : KT2 R) (v2 v6 v7 : GV) (h : Heap) : Option R := (klen v7).bind fun v16 => n5 k G v2 v6 v7 v16 (.int .i64 0) h
theorem n4_eq0 {R : Type} (k : Nat) (G : KT2 R) (σ : GS) (h : Heap) : KC k 32 c15 σ h (fun x σ h => kx x (n5 k G (σ 2) (σ 6) (σ 7) (σ 16) (σ 17) h) (G x (σ 6) (σ 7) h)) = n4 k G (σ 2) (σ 6) (σ 7) h := by kernel_rfl
theorem n4_eq {R : Type} (k : Nat) (G : KT2 R) (σ : GS) (h : Heap) : KC k 32 c4 σ h (fun x σ h => G x (σ 6) (σ 7) h) = n4 k G (σ 2) (σ 6) (σ 7) h := (kseq (b := c5) rfl (fun σ h => n5_eq k G σ h)).trans (n4_eq0 k G σ h)
@[simp] def n2 {R : Type} (k : Nat) (G : KT1 R) (v2 v6 v7 : GV) (h : Heap) : Option R := n4 k (fun x v6 v7 h => kx x (n3 k G v7 h) (G x v6 h)) v2 v6 v7 h
theorem n2_eq {R : Type} (k : Nat) (G : KT1 R) (σ : GS) (h : Heap) : KC k 32 c2 σ h (fun x σ h => G x (σ 6) h) = n2 k G (σ 2) (σ 6) (σ 7) h := (kseq (b := c3) rfl (fun σ h => n3_eq k G σ h)).trans (n4_eq k (fun x v6 v7 h => kx x (n3 k G v7 h) (G x v6 h)) σ h)
noncomputable def c16 : Code := cL c1
@[simp] def n1 {R : Type} (k : Nat) (G : KT1 R) (v0 v1 v2 v6 : GV) (h : Heap) : Option R := (klenS v2).bind fun v12 => (kN NN fn.impl_Stream [v0, v1, v12] h).bind fun v13 => (kstr v13).bind fun s => kby s h fun v14 h => n2 k G v2 v6 v14 h
theorem n1_eq0 {R : Type} (k : Nat) (G : KT1 R) (σ : GS) (h : Heap) : KC k 32 c16 σ h (fun x σ h => kx x (n2 k G (σ 2) (σ 6) (σ 7) h) (G x (σ 6) h)) = n1 k G (σ 0) (σ 1) (σ 2) (σ 6) h := by kernel_rfl
theorem n1_eq {R : Type} (k : Nat) (G : KT1 R) (σ : GS) (h : Heap) : KC k 32 c1 σ h (fun x σ h => G x (σ 6) h) = n1 k G (σ 0) (σ 1) (σ 2) (σ 6) h := (kseq (b := c2) rfl (fun σ h => n2_eq k G σ h)).trans (n1_eq0 k G σ h)
noncomputable def c17 : Code := cL c0
@[simp] def n0 {R : Type} (k : Nat) (G : KT1 R) (v0 v1 v2 : GV) (h : Heap) : Option R := n1 k G v0 v1 v2 (.str { data := #[] }) h
theorem n0_eq0 {R : Type} (k : Nat) (G : KT1 R) (σ : GS) (h : Heap) : KC k 32 c17 σ h (fun x σ h => kx x (n1 k G (σ 0) (σ 1) (σ 2) (σ 6) h) (G x (σ 6) h)) = n0 k G (σ 0) (σ 1) (σ 2) h := by kernel_rfl
theorem n0_eq {R : Type} (k : Nat) (G : KT1 R) (σ : GS) (h : Heap) : KC k 32 c0 σ h (fun x σ h => G x (σ 6) h) = n0 k G (σ 0) (σ 1) (σ 2) h := (kseq (b := c1) rfl (fun σ h => n1_eq k G σ h)).trans (n0_eq0 k G σ h)
def run {R : Type} (k : Nat) (a0 : GV) (a1 : GV) (a2 : GV) (h : Heap) (fin : GV → Heap → Option R) : Option R := n0 k (fun x v6 h => kend x (fin v6 h)) a0 a1 a2 h
theorem run_eq {R : Type} (k : Nat) (a0 : GV) (a1 : GV) (a2 : GV) (h : Heap) (fin : GV → Heap → Option R) : kfun PP cfg NN HH k fn.impl_xored [a0, a1, a2] h fin = run k a0 a1 a2 h fin := (kfun_eq (nt := 32) (c := c0) (show PP.funcs[fn.impl_xored]? = some Tryd.f72 by kernel_rfl) (by kernel_rfl) (by kernel_rfl) (fun x σ h => by cases x <;> kernel_rfl)).trans (n0_eq k (fun x v6 h => kend x (fin v6 h)) _ h)
theorem gives {k : Nat} {a0 : GV} {a1 : GV} {a2 : GV} {v : GV} (e : run k a0 a1 a2 [] finN = some v) : NN fn.impl_xored [a0, a1, a2] = some v := nω_of (by kernel_rfl) ((run_eq k a0 a1 a2 [] finN).trans e)
end S.impl_xored
/-! spec_EntryOk -/
namespace S.spec_EntryOk
noncomputable def c0 : Code := bodyOf Tryd.f73
noncomputable def c1 : Code := cR c0
noncomputable def c2 : Code := cR c1
noncomputable def c3 : Code := cR c2
@[simp] def n3 {R : Type} (k : Nat) (G : KT1 R) (h : Heap) : Option R := G .ret (.bool false) h
theorem n3_eq {R : Type} (k : Nat) (G : KT1 R) (σ : GS) (h : Heap) : KC k 59 c3 σ h (fun x σ h => G x (σ 2) h) = n3 k G h := by kernel_rfl
noncomputable def c4 : Code := cL c2
noncomputable def c5 : Code := cR c4
noncomputable def c6 : Code := cL c5
noncomputable def c7 : Code := cR c6
noncomputable def c8 : Code := cL c7
noncomputable def c9 : Code := cR c8
@[simp] def n9 {R : Type} (k : Nat) (G : KT1 R) (v2 : GV) (h : Heap) : Option R := G .ret v2 h
theorem n9_eq {R : Type} (k : Nat) (G : KT1 R) (σ : GS) (h : Heap) : KC k 59 c9 σ h (fun x σ h => G x (σ 2) h) = n9 k G (σ 2) h := by kernel_rfl
noncomputable def c10 : Code := cL c8
noncomputable def o10 : Array Oper := cO c10
@[simp] def g10_6 {R : Type} (k : Nat) (G : KT1 R) (v23 v25 : GV) (h : Heap) : Option R := (kpick v23 v25 (.bool false)).bind fun v26 => G .nrm v26 h
theorem g10_6_eq {R : Type} (k : Nat) (G : KT1 R) (σ : GS) (h : Heap) : kgroups PP cfg NN HH 59 o10 [(none, [15, 16])] σ h (fun σ h => G .nrm (σ 2) h) = g10_6 k G (σ 23) (σ 25) h := by kernel_rfl
@[simp] def g10_5 {R : Type} (k : Nat) (G : KT1 R) (v3 v23 : GV) (h : Heap) : Option R := bif tr true v23 then (kbin .leq v3 (.int .i64 20)).bind fun v25 => g10_6 k G v23 v25 h else g10_6 k G v23 .un h
theorem g10_5_eq0 {R : Type} (k : Nat) (G : KT1 R) (σ : GS) (h : Heap) : kgroup1 PP cfg NN HH 59 o10 (some (12, true), [13, 14]) σ h (fun σ h => g10_6 k G (σ 23) (σ 25) h) = g10_5 k G (σ 3) (σ 23) h := by kernel_rfl
theorem g10_5_eq {R : Type} (k : Nat) (G : KT1 R) (σ : GS) (h : Heap) : kgroups PP cfg NN HH 59 o10 [(some (12, true), [13, 14]), (none, [15, 16])] σ h (fun σ h => G .nrm (σ 2) h) = g10_5 k G (σ 3) (σ 23) h := (kgroups_cons (fun σ h => g10_6_eq k G σ h)).trans (g10_5_eq0 k G σ h)
@[simp] def g10_4 {R : Type} (k : Nat) (G : KT1 R) (v3 v19 v21 : GV) (h : Heap) : Option R := (kpick v19 v21 (.bool false)).bind fun v22 => g10_5 k G v3 v22 h
theorem g10_4_eq0 {R : Type} (k : Nat) (G : KT1 R) (σ : GS) (h : Heap) : kgroup1 PP cfg NN HH 59 o10 (none, [11, 12]) σ h (fun σ h => g10_5 k G (σ 3) (σ 23) h) = g10_4 k G (σ 3) (σ 19) (σ 21) h := by kernel_rfl
theorem g10_4_eq {R : Type} (k : Nat) (G : KT1 R) (σ : GS) (h : Heap) : kgroups PP cfg NN HH 59 o10 [(none, [11, 12]), (some (12, true), [13, 14]), (none, [15, 16])] σ h (fun σ h => G .nrm (σ 2) h) = g10_4 k G (σ 3) (σ 19) (σ 21) h := (kgroups_cons (fun σ h => g10_5_eq k G σ h)).trans (g10_4_eq0 k G σ h)
@[simp] def g10_3 {R : Type} (k : Nat) (G : KT1 R) (v3 v19 : GV) (h : Heap) : Option R := bif tr true v19 then (kbin .geq v3 (.int .i64 1)).bind fun v21 => g10_4 k G v3 v19 v21 h else g10_4 k G v3 v19 .un h
theorem g10_3_eq0 {R : Type} (k : Nat) (G : KT1 R) (σ : GS) (h : Heap) : kgroup1 PP cfg NN HH 59 o10 (some (8, true), [9, 10]) σ h (fun σ h => g10_4 k G (σ 3) (σ 19) (σ 21) h) = g10_3 k G (σ 3) (σ 19) h := by kernel_rfl
theorem g10_3_eq {R : Type} (k : Nat) (G : KT1 R) (σ : GS) (h : Heap) : kgroups PP cfg NN HH 59 o10 [(some (8, true), [9, 10]), (none, [11, 12]), (some (12, true), [13, 14]), (none, [15, 16])] σ h (fun σ h => G .nrm (σ 2) h) = g10_3 k G (σ 3) (σ 19) h := (kgroups_cons (fun σ h => g10_4_eq k G σ h)).trans (g10_3_eq0 k G σ h)
@[simp] def g10_2 {R : Type} (k : Nat) (G : KT1 R) (v3 v14 v17 : GV) (h : Heap) : Option R := (kpick v14 v17 (.bool false)).bind fun v18 => g10_3 k G v3 v18 h
theorem g10_2_eq0 {R : Type} (k : Nat) (G : KT1 R) (σ : GS) (h : Heap) : kgroup1 PP cfg NN HH 59 o10 (none, [7, 8]) σ h (fun σ h => g10_3 k G (σ 3) (σ 19) h) = g10_2 k G (σ 3) (σ 14) (σ 17) h := by kernel_rfl
theorem g10_2_eq {R : Type} (k : Nat) (G : KT1 R) (σ : GS) (h : Heap) : kgroups PP cfg NN HH 59 o10 [(none, [7, 8]), (some (8, true), [9, 10]), (none, [11, 12]), (some (12, true), [13, 14]), (none, [15, 16])] σ h (fun σ h => G .nrm (σ 2) h) = g10_2 k G (σ 3) (σ 14) (σ 17) h := (kgroups_cons (fun σ h => g10_3_eq k G σ h)).trans (g10_2_eq0 k G σ h)
@[simp] def g10_1 {R : Type} (k : Nat) (G : KT1 R) (v1 v3 v14 : GV) (h : Heap) : Option R := bif tr true v14 then (kfa 2 v1).bind fun v15 => (kload1 h v15).bind fun v16 => (kN NN fn.spec_l1In [v16, (.int .i64 1), (.int .i64 10000)] h).bind fun v17 => g10_2 k G v3 v14 v17 h else g10_2 k G v3 v14 .un h
theorem g10_1_eq0 {R : Type} (k : Nat) (G : KT1 R) (σ : GS) (h : Heap) : kgroup1 PP cfg NN HH 59 o10 (some (3, true), [4, 5, 6]) σ h (fun σ h => g10_2 k G (σ 3) (σ 14) (σ 17) h) = g10_1 k G (σ 1) (σ 3) (σ 14) h := by kernel_rfl
theorem g10_1_eq {R : Type} (k : Nat) (G : KT1 R) (σ : GS) (h : Heap) : kgroups PP cfg NN HH 59 o10 [(some (3, true), [4, 5, 6]), (none, [7, 8]), (some (8, true), [9, 10]), (none, [11, 12]), (some (12, true), [13, 14]), (none, [15, 16])] σ h (fun σ h => G .nrm (σ 2) h) = g10_1 k G (σ 1) (σ 3) (σ 14) h := (kgroups_cons (fun σ h => g10_2_eq k G σ h)).trans (g10_1_eq0 k G σ h)
@[simp] def g10_0 {R : Type} (k : Nat) (G : KT1 R) (v1 v3 : GV) (h : Heap) : Option R := (kfa 1 v1).bind fun v11 => (kload1 h v11).bind fun v12 => (kN NN fn.spec_l1In [v12, (.int .i64 0), (.int .i64 3)] h).bind fun v13 => g10_1 k G v1 v3 v13 h
theorem g10_0_eq0 {R : Type} (k : Nat) (G : KT1 R) (σ : GS) (h : Heap) : kgroup1 PP cfg NN HH 59 o10 (none, [0, 1, 2, 3]) σ h (fun σ h => g10_1 k G (σ 1) (σ 3) (σ 14) h) = g10_0 k G (σ 1) (σ 3) h := by kernel_rfl
theorem g10_0_eq {R : Type} (k : Nat) (G : KT1 R) (σ : GS) (h : Heap) : kgroups PP cfg NN HH 59 o10 [(none, [0, 1, 2, 3]), (some (3, true), [4, 5, 6]), (none, [7, 8]), (some (8, true), [9, 10]), (none, [11, 12]), (some (12, true), [13, 14]), (none, [15, 16])] σ h (fun σ h => G .nrm (σ 2) h) = g10_0 k G (σ 1) (σ 3) h := (kgroups_cons (fun σ h => g10_1_eq k G σ h)).trans (g10_0_eq0 k G σ h)
@[simp] def n10 {R : Type} (k : Nat) (G : KT1 R) (v1 v3 : GV) (h : Heap) : Option R := g10_0 k G v1 v3 h
theorem n10_eq {R : Type} (k : Nat) (G : KT1 R) (σ : GS) (h : Heap) : KC k 59 c10 σ h (fun x σ h => G x (σ 2) h) = n10 k G (σ 1) (σ 3) h := (kregion_eq (id := 4) (draw := false) (ops := o10) (gs := [(none, [0, 1, 2, 3]), (some (3, true), [4, 5, 6]), (none, [7, 8]), (some (8, true), [9, 10]), (none, [11, 12]), (some (12, true), [13, 14]), (none, [15, 16])]) (by kernel_rfl) (by kernel_rfl) (by kernel_rfl)).trans (g10_0_eq k G σ h)
@[simp] def n8 {R : Type} (k : Nat) (G : KT1 R) (v1 v3 : GV) (h : Heap) : Option R := n10 k (fun x v2 h => kx x (n9 k G v2 h) (G x v2 h)) v1 v3 h
theorem n8_eq {R : Type} (k : Nat) (G : KT1 R) (σ : GS) (h : Heap) : KC k 59 c8 σ h (fun x σ h => G x (σ 2) h) = n8 k G (σ 1) (σ 3) h := (kseq (b := c9) rfl (fun σ h => n9_eq k G σ h)).trans (n10_eq k (fun x v2 h => kx x (n9 k G v2 h) (G x v2 h)) σ h)
noncomputable def c11 : Code := cR c7
noncomputable def c12 : Code := cR c11
noncomputable def c13 : Code := cL c12
noncomputable def c14 : Code := cR c13
@[simp] def n14 {R : Type} (k : Nat) (G : KT1 R) (v2 : GV) (h : Heap) : Option R := G .ret v2 h
theorem n14_eq {R : Type} (k : Nat) (G : KT1 R) (σ : GS) (h : Heap) : KC k 59 c14 σ h (fun x σ h => G x (σ 2) h) = n14 k G (σ 2) h := by kernel_rfl
noncomputable def c15 : Code := cL c13
noncomputable def o15 : Array Oper := cO c15
@[simp] def g15_6 {R : Type} (k : Nat) (G : KT1 R) (v41 v43 : GV) (h : Heap) : Option R := (kpick v41 v43 (.bool false)).bind fun v44 => G .nrm v44 h
theorem g15_6_eq {R : Type} (k : Nat) (G : KT1 R) (σ : GS) (h : Heap) : kgroups PP cfg NN HH 59 o15 [(none, [15, 16])] σ h (fun σ h => G .nrm (σ 2) h) = g15_6 k G (σ 41) (σ 43) h := by kernel_rfl
@[simp] def g15_5 {R : Type} (k : Nat) (G : KT1 R) (v3 v41 : GV) (h : Heap) : Option R := bif tr true v41 then (kbin .leq v3 (.int .i64 60)).bind fun v43 => g15_6 k G v41 v43 h else g15_6 k G v41 .un h
theorem g15_5_eq0 {R : Type} (k : Nat) (G : KT1 R) (σ : GS) (h : Heap) : kgroup1 PP cfg NN HH 59 o15 (some (12, true), [13, 14]) σ h (fun σ h => g15_6 k G (σ 41) (σ 43) h) = g15_5 k G (σ 3) (σ 41) h := by kernel_rfl
theorem g15_5_eq {R : Type} (k : Nat) (G : KT1 R) (σ : GS) (h : Heap) : kgroups PP cfg NN HH 59 o15 [(some (12, true), [13, 14]), (none, [15, 16])] σ h (fun σ h => G .nrm (σ 2) h) = g15_5 k G (σ 3) (σ 41) h := (kgroups_cons (fun σ h => g15_6_eq k G σ h)).trans (g15_5_eq0 k G σ h)
@[simp] def g15_4 {R : Type} (k : Nat) (G : KT1 R) (v3 v37 v39 : GV) (h : Heap) : Option R := (kpick v37 v39 (.bool false)).bind fun v40 => g15_5 k G v3 v40 h
theorem g15_4_eq0 {R : Type} (k : Nat) (G : KT1 R) (σ : GS) (h : Heap) : kgroup1 PP cfg NN HH 59 o15 (none, [11, 12]) σ h (fun σ h => g15_5 k G (σ 3) (σ 41) h) = g15_4 k G (σ 3) (σ 37) (σ 39) h := by kernel_rfl
theorem g15_4_eq {R : Type} (k : Nat) (G : KT1 R) (σ : GS) (h : Heap) : kgroups PP cfg NN HH 59 o15 [(none, [11, 12]), (some (12, true), [13, 14]), (none, [15, 16])] σ h (fun σ h => G .nrm (σ 2) h) = g15_4 k G (σ 3) (σ 37) (σ 39) h := (kgroups_cons (fun σ h => g15_5_eq k G σ h)).trans (g15_4_eq0 k G σ h)
@[simp] def g15_3 {R : Type} (k : Nat) (G : KT1 R) (v3 v37 : GV) (h : Heap) : Option R := bif tr true v37 then (kbin .geq v3 (.int .i64 1)).bind fun v39 => g15_4 k G v3 v37 v39 h else g15_4 k G v3 v37 .un h
theorem g15_3_eq0 {R : Type} (k : Nat) (G : KT1 R) (σ : GS) (h : Heap) : kgroup1 PP cfg NN HH 59 o15 (some (8, true), [9, 10]) σ h (fun σ h => g15_4 k G (σ 3) (σ 37) (σ 39) h) = g15_3 k G (σ 3) (σ 37) h := by kernel_rfl
theorem g15_3_eq {R : Type} (k : Nat) (G : KT1 R) (σ : GS) (h : Heap) : kgroups PP cfg NN HH 59 o15 [(some (8, true), [9, 10]), (none, [11, 12]), (some (12, true), [13, 14]), (none, [15, 16])] σ h (fun σ h => G .nrm (σ 2) h) = g15_3 k G (σ 3) (σ 37) h := (kgroups_cons (fun σ h => g15_4_eq k G σ h)).trans (g15_3_eq0 k G σ h)
@[simp] def g15_2 {R : Type} (k : Nat) (G : KT1 R) (v3 v32 v35 : GV) (h : Heap) : Option R := (kpick v32 v35 (.bool false)).bind fun v36 => g15_3 k G v3 v36 h
theorem g15_2_eq0 {R : Type} (k : Nat) (G : KT1 R) (σ : GS) (h : Heap) : kgroup1 PP cfg NN HH 59 o15 (none, [7, 8]) σ h (fun σ h => g15_3 k G (σ 3) (σ 37) h) = g15_2 k G (σ 3) (σ 32) (σ 35) h := by kernel_rfl
theorem g15_2_eq {R : Type} (k : Nat) (G : KT1 R) (σ : GS) (h : Heap) : kgroups PP cfg NN HH 59 o15 [(none, [7, 8]), (some (8, true), [9, 10]), (none, [11, 12]), (some (12, true), [13, 14]), (none, [15, 16])] σ h (fun σ h => G .nrm (σ 2) h) = g15_2 k G (σ 3) (σ 32) (σ 35) h := (kgroups_cons (fun σ h => g15_3_eq k G σ h)).trans (g15_2_eq0 k G σ h)
@[simp] def g15_1 {R : Type} (k : Nat) (G : KT1 R) (v1 v3 v32 : GV) (h : Heap) : Option R := bif tr true v32 then (kfa 2 v1).bind fun v33 => (kload1 h v33).bind fun v34 => (kbin .eql v34 (.int .i64 0)).bind fun v35 => g15_2 k G v3 v32 v35 h else g15_2 k G v3 v32 .un h
theorem g15_1_eq0 {R : Type} (k : Nat) (G : KT1 R) (σ : GS) (h : Heap) : kgroup1 PP cfg NN HH 59 o15 (some (3, true), [4, 5, 6]) σ h (fun σ h => g15_2 k G (σ 3) (σ 32) (σ 35) h) = g15_1 k G (σ 1) (σ 3) (σ 32) h := by kernel_rfl
theorem g15_1_eq {R : Type} (k : Nat) (G : KT1 R) (σ : GS) (h : Heap) : kgroups PP cfg NN HH 59 o15 [(some (3, true), [4, 5, 6]), (none, [7, 8]), (some (8, true), [9, 10]), (none, [11, 12]), (some (12, true), [13, 14]), (none, [15, 16])] σ h (fun σ h => G .nrm (σ 2) h) = g15_1 k G (σ 1) (σ 3) (σ 32) h := (kgroups_cons (fun σ h => g15_2_eq k G σ h)).trans (g15_1_eq0 k G σ h)
@[simp] def g15_0 {R : Type} (k : Nat) (G : KT1 R) (v1 v3 : GV) (h : Heap) : Option R := (kfa 1 v1).bind fun v29 => (kload1 h v29).bind fun v30 => (kbin .eql v30 (.int .i64 0)).bind fun v31 => g15_1 k G v1 v3 v31 h
theorem g15_0_eq0 {R : Type} (k : Nat) (G : KT1 R) (σ : GS) (h : Heap) : kgroup1 PP cfg NN HH 59 o15 (none, [0, 1, 2, 3]) σ h (fun σ h => g15_1 k G (σ 1) (σ 3) (σ 32) h) = g15_0 k G (σ 1) (σ 3) h := by kernel_rfl
theorem g15_0_eq {R : Type} (k : Nat) (G : KT1 R) (σ : GS) (h : Heap) : kgroups PP cfg NN HH 59 o15 [(none, [0, 1, 2, 3]), (some (3, true), [4, 5, 6]), (none, [7, 8]), (some (8, true), [9, 10]), (none, [11, 12]), (some (12, true), [13, 14]), (none, [15, 16])] σ h (fun σ h => G .nrm (σ 2) h) = g15_0 k G (σ 1) (σ 3) h := (kgroups_cons (fun σ h => g15_1_eq k G σ h)).trans (g15_0_eq0 k G σ h)
@[simp] def n15 {R : Type} (k : Nat) (G : KT1 R) (v1 v3 : GV) (h : Heap) : Option R := g15_0 k G v1 v3 h
theorem n15_eq {R : Type} (k : Nat) (G : KT1 R) (σ : GS) (h : Heap) : KC k 59 c15 σ h (fun x σ h => G x (σ 2) h) = n15 k G (σ 1) (σ 3) h := (kregion_eq (id := 6) (draw := false) (ops := o15) (gs := [(none, [0, 1, 2, 3]), (some (3, true), [4, 5, 6]), (none, [7, 8]), (some (8, true), [9, 10]), (none, [11, 12]), (some (12, true), [13, 14]), (none, [15, 16])]) (by kernel_rfl) (by kernel_rfl) (by kernel_rfl)).trans (g15_0_eq k G σ h)
@[simp] def n13 {R : Type} (k : Nat) (G : KT1 R) (v1 v3 : GV) (h : Heap) : Option R := n15 k (fun x v2 h => kx x (n14 k G v2 h) (G x v2 h)) v1 v3 h
theorem n13_eq {R : Type} (k : Nat) (G : KT1 R) (σ : GS) (h : Heap) : KC k 59 c13 σ h (fun x σ h => G x (σ 2) h) = n13 k G (σ 1) (σ 3) h := (kseq (b := c14) rfl (fun σ h => n14_eq k G σ h)).trans (n15_eq k (fun x v2 h => kx x (n14 k G v2 h) (G x v2 h)) σ h)
noncomputable def c16 : Code := cR c12
noncomputable def c17 : Code := cR c16
noncomputable def c18 : Code := cL c17
noncomputable def c19 : Code := cR c18
@[simp] def n19 {R : Type} (k : Nat) (G : KT1 R) (v2 : GV) (h : Heap) : Option R := G .ret v2 h
theorem n19_eq {R : Type} (k : Nat) (G : KT1 R) (σ : GS) (h : Heap) : KC k 59 c19 σ h (fun x σ h => G x (σ 2) h) = n19 k G (σ 2) h := by kernel_rfl
noncomputable def c20 : Code := cL c18
noncomputable def o20 : Array Oper := cO c20
@[simp] def g20_4 {R : Type} (k : Nat) (G : KT1 R) (v55 v57 : GV) (h : Heap) : Option R := (kpick v55 v57 (.bool false)).bind fun v58 => G .nrm v58 h
theorem g20_4_eq {R : Type} (k : Nat) (G : KT1 R) (σ : GS) (h : Heap) : kgroups PP cfg NN HH 59 o20 [(none, [11, 12])] σ h (fun σ h => G .nrm (σ 2) h) = g20_4 k G (σ 55) (σ 57) h := by kernel_rfl
@[simp] def g20_3 {R : Type} (k : Nat) (G : KT1 R) (v3 v55 : GV) (h : Heap) : Option R := bif tr true v55 then (kbin .eql v3 (.int .i64 0)).bind fun v57 => g20_4 k G v55 v57 h else g20_4 k G v55 .un h
theorem g20_3_eq0 {R : Type} (k : Nat) (G : KT1 R) (σ : GS) (h : Heap) : kgroup1 PP cfg NN HH 59 o20 (some (8, true), [9, 10]) σ h (fun σ h => g20_4 k G (σ 55) (σ 57) h) = g20_3 k G (σ 3) (σ 55) h := by kernel_rfl
theorem g20_3_eq {R : Type} (k : Nat) (G : KT1 R) (σ : GS) (h : Heap) : kgroups PP cfg NN HH 59 o20 [(some (8, true), [9, 10]), (none, [11, 12])] σ h (fun σ h => G .nrm (σ 2) h) = g20_3 k G (σ 3) (σ 55) h := (kgroups_cons (fun σ h => g20_4_eq k G σ h)).trans (g20_3_eq0 k G σ h)
@[simp] def g20_2 {R : Type} (k : Nat) (G : KT1 R) (v3 v50 v53 : GV) (h : Heap) : Option R := (kpick v50 v53 (.bool false)).bind fun v54 => g20_3 k G v3 v54 h
theorem g20_2_eq0 {R : Type} (k : Nat) (G : KT1 R) (σ : GS) (h : Heap) : kgroup1 PP cfg NN HH 59 o20 (none, [7, 8]) σ h (fun σ h => g20_3 k G (σ 3) (σ 55) h) = g20_2 k G (σ 3) (σ 50) (σ 53) h := by kernel_rfl
theorem g20_2_eq {R : Type} (k : Nat) (G : KT1 R) (σ : GS) (h : Heap) : kgroups PP cfg NN HH 59 o20 [(none, [7, 8]), (some (8, true), [9, 10]), (none, [11, 12])] σ h (fun σ h => G .nrm (σ 2) h) = g20_2 k G (σ 3) (σ 50) (σ 53) h := (kgroups_cons (fun σ h => g20_3_eq k G σ h)).trans (g20_2_eq0 k G σ h)
@[simp] def g20_1 {R : Type} (k : Nat) (G : KT1 R) (v1 v3 v50 : GV) (h : Heap) : Option R := bif tr true v50 then (kfa 2 v1).bind fun v51 => (kload1 h v51).bind fun v52 => (kN NN fn.spec_l1In [v52, (.int .i64 1), (.int .i64 30)] h).bind fun v53 => g20_2 k G v3 v50 v53 h else g20_2 k G v3 v50 .un h
theorem g20_1_eq0 {R : Type} (k : Nat) (G : KT1 R) (σ : GS) (h : Heap) : kgroup1 PP cfg NN HH 59 o20 (some (3, true), [4, 5, 6]) σ h (fun σ h => g20_2 k G (σ 3) (σ 50) (σ 53) h) = g20_1 k G (σ 1) (σ 3) (σ 50) h := by kernel_rfl
theorem g20_1_eq {R : Type} (k : Nat) (G : KT1 R) (σ : GS) (h : Heap) : kgroups PP cfg NN HH 59 o20 [(some (3, true), [4, 5, 6]), (none, [7, 8]), (some (8, true), [9, 10]), (none, [11, 12])] σ h (fun σ h => G .nrm (σ 2) h) = g20_1 k G (σ 1) (σ 3) (σ 50) h := (kgroups_cons (fun σ h => g20_2_eq k G σ h)).trans (g20_1_eq0 k G σ h)
@[simp] def g20_0 {R : Type} (k : Nat) (G : KT1 R) (v1 v3 : GV) (h : Heap) : Option R := (kfa 1 v1).bind fun v47 => (kload1 h v47).bind fun v48 => (kN NN fn.spec_l1In [v48, (.int .i64 1), (.int .i64 60)] h).bind fun v49 => g20_1 k G v1 v3 v49 h
theorem g20_0_eq0 {R : Type} (k : Nat) (G : KT1 R) (σ : GS) (h : Heap) : kgroup1 PP cfg NN HH 59 o20 (none, [0, 1, 2, 3]) σ h (fun σ h => g20_1 k G (σ 1) (σ 3) (σ 50) h) = g20_0 k G (σ 1) (σ 3) h := by kernel_rfl
theorem g20_0_eq {R : Type} (k : Nat) (G : KT1 R) (σ : GS) (h : Heap) : kgroups PP cfg NN HH 59 o20 [(none, [0, 1, 2, 3]), (some (3, true), [4, 5, 6]), (none, [7, 8]), (some (8, true), [9, 10]), (none, [11, 12])] σ h (fun σ h => G .nrm (σ 2) h) = g20_0 k G (σ 1) (σ 3) h := (kgroups_cons (fun σ h => g20_1_eq k G σ h)).trans (g20_0_eq0 k G σ h)
@[simp] def n20 {R : Type} (k : Nat) (G : KT1 R) (v1 v3 : GV) (h : Heap) : Option R := g20_0 k G v1 v3 h
theorem n20_eq {R : Type} (k : Nat) (G : KT1 R) (σ : GS) (h : Heap) : KC k 59 c20 σ h (fun x σ h => G x (σ 2) h) = n20 k G (σ 1) (σ 3) h := (kregion_eq (id := 8) (draw := false) (ops := o20) (gs := [(none, [0, 1, 2, 3]), (some (3, true), [4, 5, 6]), (none, [7, 8]), (some (8, true), [9, 10]), (none, [11, 12])]) (by kernel_rfl) (by kernel_rfl) (by kernel_rfl)).trans (g20_0_eq k G σ h)
@[simp] def n18 {R : Type} (k : Nat) (G : KT1 R) (v1 v3 : GV) (h : Heap) : Option R := n20 k (fun x v2 h => kx x (n19 k G v2 h) (G x v2 h)) v1 v3 h
theorem n18_eq {R : Type} (k : Nat) (G : KT1 R) (σ : GS) (h : Heap) : KC k 59 c18 σ h (fun x σ h => G x (σ 2) h) = n18 k G (σ 1) (σ 3) h := (kseq (b := c19) rfl (fun σ h => n19_eq k G σ h)).trans (n20_eq k (fun x v2 h => kx x (n19 k G v2 h) (G x v2 h)) σ h)
noncomputable def c21 : Code := cR c17
@[simp] def n21 {R : Type} (k : Nat) (G : KT1 R) (v2 : GV) (h : Heap) : Option R := G .nrm v2 h
theorem n21_eq {R : Type} (k : Nat) (G : KT1 R) (σ : GS) (h : Heap) : KC k 59 c21 σ h (fun x σ h => G x (σ 2) h) = n21 k G (σ 2) h := by kernel_rfl
@[simp] def n17 {R : Type} (k : Nat) (G : KT1 R) (v1 v2 v3 v45 : GV) (h : Heap) : Option R := kcond v45 (n18 k G v1 v3 h) (n21 k G v2 h)
theorem n17_eq {R : Type} (k : Nat) (G : KT1 R) (σ : GS) (h : Heap) : KC k 59 c17 σ h (fun x σ h => G x (σ 2) h) = n17 k G (σ 1) (σ 2) (σ 3) (σ 45) h := (kcond_eq (a := c18) (b := c21) rfl (by rfl)).trans (congr (congrArg (kcond (σ 45)) (n18_eq k G σ h)) (n21_eq k G σ h))
noncomputable def c22 : Code := cL c16
@[simp] def n16 {R : Type} (k : Nat) (G : KT1 R) (v1 v2 v3 v8 : GV) (h : Heap) : Option R := (kbin .eql v8 (.int .i64 3)).bind fun v46 => n17 k G v1 v2 v3 v46 h
theorem n16_eq0 {R : Type} (k : Nat) (G : KT1 R) (σ : GS) (h : Heap) : KC k 59 c22 σ h (fun x σ h => kx x (n17 k G (σ 1) (σ 2) (σ 3) (σ 45) h) (G x (σ 2) h)) = n16 k G (σ 1) (σ 2) (σ 3) (σ 8) h := by kernel_rfl
theorem n16_eq {R : Type} (k : Nat) (G : KT1 R) (σ : GS) (h : Heap) : KC k 59 c16 σ h (fun x σ h => G x (σ 2) h) = n16 k G (σ 1) (σ 2) (σ 3) (σ 8) h := (kseq (b := c17) rfl (fun σ h => n17_eq k G σ h)).trans (n16_eq0 k G σ h)
@[simp] def n12 {R : Type} (k : Nat) (G : KT1 R) (v1 v2 v3 v8 v27 : GV) (h : Heap) : Option R := kcond v27 (n13 k G v1 v3 h) (n16 k G v1 v2 v3 v8 h)
theorem n12_eq {R : Type} (k : Nat) (G : KT1 R) (σ : GS) (h : Heap) : KC k 59 c12 σ h (fun x σ h => G x (σ 2) h) = n12 k G (σ 1) (σ 2) (σ 3) (σ 8) (σ 27) h := (kcond_eq (a := c13) (b := c16) rfl (by rfl)).trans (congr (congrArg (kcond (σ 27)) (n13_eq k G σ h)) (n16_eq k G σ h))
noncomputable def c23 : Code := cL c11
@[simp] def n11 {R : Type} (k : Nat) (G : KT1 R) (v1 v2 v3 v8 : GV) (h : Heap) : Option R := (kbin .eql v8 (.int .i64 2)).bind fun v28 => n12 k G v1 v2 v3 v8 v28 h
theorem n11_eq0 {R : Type} (k : Nat) (G : KT1 R) (σ : GS) (h : Heap) : KC k 59 c23 σ h (fun x σ h => kx x (n12 k G (σ 1) (σ 2) (σ 3) (σ 8) (σ 27) h) (G x (σ 2) h)) = n11 k G (σ 1) (σ 2) (σ 3) (σ 8) h := by kernel_rfl
theorem n11_eq {R : Type} (k : Nat) (G : KT1 R) (σ : GS) (h : Heap) : KC k 59 c11 σ h (fun x σ h => G x (σ 2) h) = n11 k G (σ 1) (σ 2) (σ 3) (σ 8) h := (kseq (b := c12) rfl (fun σ h => n12_eq k G σ h)).trans (n11_eq0 k G σ h)
@[simp] def n7 {R : Type} (k : Nat) (G : KT1 R) (v1 v2 v3 v8 v9 : GV) (h : Heap) : Option R := kcond v9 (n8 k G v1 v3 h) (n11 k G v1 v2 v3 v8 h)
theorem n7_eq {R : Type} (k : Nat) (G : KT1 R) (σ : GS) (h : Heap) : KC k 59 c7 σ h (fun x σ h => G x (σ 2) h) = n7 k G (σ 1) (σ 2) (σ 3) (σ 8) (σ 9) h := (kcond_eq (a := c8) (b := c11) rfl (by rfl)).trans (congr (congrArg (kcond (σ 9)) (n8_eq k G σ h)) (n11_eq k G σ h))
noncomputable def c24 : Code := cL c6
@[simp] def n6 {R : Type} (k : Nat) (G : KT1 R) (v1 v2 v3 v8 : GV) (h : Heap) : Option R := (kbin .eql v8 (.int .i64 1)).bind fun v10 => n7 k G v1 v2 v3 v8 v10 h
theorem n6_eq0 {R : Type} (k : Nat) (G : KT1 R) (σ : GS) (h : Heap) : KC k 59 c24 σ h (fun x σ h => kx x (n7 k G (σ 1) (σ 2) (σ 3) (σ 8) (σ 9) h) (G x (σ 2) h)) = n6 k G (σ 1) (σ 2) (σ 3) (σ 8) h := by kernel_rfl
theorem n6_eq {R : Type} (k : Nat) (G : KT1 R) (σ : GS) (h : Heap) : KC k 59 c6 σ h (fun x σ h => G x (σ 2) h) = n6 k G (σ 1) (σ 2) (σ 3) (σ 8) h := (kseq (b := c7) rfl (fun σ h => n7_eq k G σ h)).trans (n6_eq0 k G σ h)
@[simp] def n5 {R : Type} (k : Nat) (G : KT1 R) (v1 v2 v3 v8 : GV) (h : Heap) : Option R := n6 k (fun x v2 h => kb 0 x fun x => G x v2 h) v1 v2 v3 v8 h
theorem n5_eq {R : Type} (k : Nat) (G : KT1 R) (σ : GS) (h : Heap) : KC k 59 c5 σ h (fun x σ h => G x (σ 2) h) = n5 k G (σ 1) (σ 2) (σ 3) (σ 8) h := (kblock_eq (a := c6) rfl).trans (n6_eq k (fun x v2 h => kb 0 x fun x => G x v2 h) σ h)
noncomputable def c25 : Code := cL c4
@[simp] def n4 {R : Type} (k : Nat) (G : KT1 R) (v1 v2 v3 : GV) (h : Heap) : Option R := (kfa 0 v1).bind fun v7 => (kload1 h v7).bind fun v8 => n5 k G v1 v2 v3 v8 h
theorem n4_eq0 {R : Type} (k : Nat) (G : KT1 R) (σ : GS) (h : Heap) : KC k 59 c25 σ h (fun x σ h => kx x (n5 k G (σ 1) (σ 2) (σ 3) (σ 8) h) (G x (σ 2) h)) = n4 k G (σ 1) (σ 2) (σ 3) h := by kernel_rfl
theorem n4_eq {R : Type} (k : Nat) (G : KT1 R) (σ : GS) (h : Heap) : KC k 59 c4 σ h (fun x σ h => G x (σ 2) h) = n4 k G (σ 1) (σ 2) (σ 3) h := (kseq (b := c5) rfl (fun σ h => n5_eq k G σ h)).trans (n4_eq0 k G σ h)
@[simp] def n2 {R : Type} (k : Nat) (G : KT1 R) (v1 v2 v3 : GV) (h : Heap) : Option R := n4 k (fun x v2 h => kx x (n3 k G h) (G x v2 h)) v1 v2 v3 h
theorem n2_eq {R : Type} (k : Nat) (G : KT1 R) (σ : GS) (h : Heap) : KC k 59 c2 σ h (fun x σ h => G x (σ 2) h) = n2 k G (σ 1) (σ 2) (σ 3) h := (kseq (b := c3) rfl (fun σ h => n3_eq k G σ h)).trans (n4_eq k (fun x v2 h => kx x (n3 k G h) (G x v2 h)) σ h)
noncomputable def c26 : Code := cL c1
@[simp] def n1 {R : Type} (k : Nat) (G : KT1 R) (v1 v2 : GV) (h : Heap) : Option R := (kfa 3 v1).bind fun v4 => (kload1 h v4).bind fun v5 => (klenS v5).bind fun v6 => n2 k G v1 v2 v6 h
theorem n1_eq0 {R : Type} (k : Nat) (G : KT1 R) (σ : GS) (h : Heap) : KC k 59 c26 σ h (fun x σ h => kx x (n2 k G (σ 1) (σ 2) (σ 3) h) (G x (σ 2) h)) = n1 k G (σ 1) (σ 2) h := by kernel_rfl
theorem n1_eq {R : Type} (k : Nat) (G : KT1 R) (σ : GS) (h : Heap) : KC k 59 c1 σ h (fun x σ h => G x (σ 2) h) = n1 k G (σ 1) (σ 2) h := (kseq (b := c2) rfl (fun σ h => n2_eq k G σ h)).trans (n1_eq0 k G σ h)
noncomputable def c27 : Code := cL c0
@[simp] def n0 {R : Type} (k : Nat) (G : KT1 R) (v0 : GV) (h : Heap) : Option R := kbox v0 h fun v1 h => n1 k G v1 (.bool false) h
theorem n0_eq0 {R : Type} (k : Nat) (G : KT1 R) (σ : GS) (h : Heap) : KC k 59 c27 σ h (fun x σ h => kx x (n1 k G (σ 1) (σ 2) h) (G x (σ 2) h)) = n0 k G (σ 0) h := by kernel_rfl
theorem n0_eq {R : Type} (k : Nat) (G : KT1 R) (σ : GS) (h : Heap) : KC k 59 c0 σ h (fun x σ h => G x (σ 2) h) = n0 k G (σ 0) h := (kseq (b := c1) rfl (fun σ h => n1_eq k G σ h)).trans (n0_eq0 k G σ h)
def run {R : Type} (k : Nat) (a0 : GV) (h : Heap) (fin : GV → Heap → Option R) : Option R := n0 k (fun x v2 h => kend x (fin v2 h)) a0 h
theorem run_eq {R : Type} (k : Nat) (a0 : GV) (h : Heap) (fin : GV → Heap → Option R) : kfun PP cfg NN HH k fn.spec_EntryOk [a0] h fin = run k a0 h fin := (kfun_eq (nt := 59) (c := c0) (show PP.funcs[fn.spec_EntryOk]? = some Tryd.f73 by kernel_rfl) (by kernel_rfl) (by kernel_rfl) (fun x σ h => by cases x <;> kernel_rfl)).trans (n0_eq k (fun x v2 h => kend x (fin v2 h)) _ h)
theorem gives {k : Nat} {a0 : GV} {v : GV} (e : run k a0 [] finN = some v) : NN fn.spec_EntryOk [a0] = some v := nω_of (by kernel_rfl) ((run_eq k a0 [] finN).trans e)
end S.spec_EntryOk
/-! spec_l18Show -/
namespace S.spec_l18Show
noncomputable def c0 : Code := bodyOf Tryd.f74
noncomputable def c1 : Code := cR c0
noncomputable def c2 : Code := cR c1
@[simp] def n2 {R : Type} (k : Nat) (G : KT1 R) (v1 : GV) (h : Heap) : Option R := (kfa 1 v1).bind fun v27 => (kload1 h v27).bind fun v28 => (kN NN fn.spec_l3Int [v28] h).bind fun v29 => (kbin .add (.str { data := #[115, 105, 122, 101, 32] }) v29).bind fun v30 => (kbin .add v30 (.str { data := #[32] })).bind fun v31 => (kfa 2 v1).bind fun v32 => (kload1 h v32).bind fun v33 => (kN NN fn.spec_l3Int [v33] h).bind fun v34 => (kbin .add v31 v34).bind fun v35 => G .ret v35 h
theorem n2_eq {R : Type} (k : Nat) (G : KT1 R) (σ : GS) (h : Heap) : KC k 36 c2 σ h (fun x σ h => G x (σ 2) h) = n2 k G (σ 1) h := by kernel_rfl
noncomputable def c3 : Code := cL c1
noncomputable def c4 : Code := cR c3
noncomputable def c5 : Code := cL c4
@[simp] def n5 {R : Type} (k : Nat) (G : KT2 R) (v1 v2 v4 : GV) (h : Heap) : Option R := (kbin .eql v4 (.int .i64 1)).bind fun v6 => kcond v6 ((kfa 1 v1).bind fun v7 => (kload1 h v7).bind fun v8 => (kN NN fn.spec_l3Int [v8] h).bind fun v9 => (kbin .add (.str { data := #[107, 101, 121, 115, 32] }) v9).bind fun v10 => (kbin .add v10 (.str { data := #[32] })).bind fun v11 => (kfa 2 v1).bind fun v12 => (kload1 h v12).bind fun v13 => (kN NN fn.spec_l3Int [v13] h).bind fun v14 => (kbin .add v11 v14).bind fun v15 => (kbin .add v15 (.str { data := #[32] })).bind fun v16 => (kfa 3 v1).bind fun v17 => (kload1 h v17).bind fun v18 => (kN NN fn.spec_l18Hex [v18] h).bind fun v19 => (kbin .add v16 v19).bind fun v20 => G .ret v1 v20 h) ((kbin .eql v4 (.int .i64 2)).bind fun v22 => kcond v22 ((kfa 3 v1).bind fun v23 => (kload1 h v23).bind fun v24 => (kN NN fn.spec_l18Hex [v24] h).bind fun v25 => (kbin .add (.str { data := #[111, 117, 116, 32] }) v25).bind fun v26 => G .ret v1 v26 h) (G .nrm v1 v2 h))
theorem n5_eq {R : Type} (k : Nat) (G : KT2 R) (σ : GS) (h : Heap) : KC k 36 c5 σ h (fun x σ h => G x (σ 1) (σ 2) h) = n5 k G (σ 1) (σ 2) (σ 4) h := by kernel_rfl
@[simp] def n4 {R : Type} (k : Nat) (G : KT2 R) (v1 v2 v4 : GV) (h : Heap) : Option R := n5 k (fun x v1 v2 h => kb 0 x fun x => G x v1 v2 h) v1 v2 v4 h
theorem n4_eq {R : Type} (k : Nat) (G : KT2 R) (σ : GS) (h : Heap) : KC k 36 c4 σ h (fun x σ h => G x (σ 1) (σ 2) h) = n4 k G (σ 1) (σ 2) (σ 4) h := (kblock_eq (a := c5) rfl).trans (n5_eq k (fun x v1 v2 h => kb 0 x fun x => G x v1 v2 h) σ h)
noncomputable def c6 : Code := cL c3
@[simp] def n3 {R : Type} (k : Nat) (G : KT2 R) (v1 v2 : GV) (h : Heap) : Option R := (kfa 0 v1).bind fun v3 => (kload1 h v3).bind fun v4 => n4 k G v1 v2 v4 h
theorem n3_eq0 {R : Type} (k : Nat) (G : KT2 R) (σ : GS) (h : Heap) : KC k 36 c6 σ h (fun x σ h => kx x (n4 k G (σ 1) (σ 2) (σ 4) h) (G x (σ 1) (σ 2) h)) = n3 k G (σ 1) (σ 2) h := by kernel_rfl
theorem n3_eq {R : Type} (k : Nat) (G : KT2 R) (σ : GS) (h : Heap) : KC k 36 c3 σ h (fun x σ h => G x (σ 1) (σ 2) h) = n3 k G (σ 1) (σ 2) h := (kseq (b := c4) rfl (fun σ h => n4_eq k G σ h)).trans (n3_eq0 k G σ h)
@[simp] def n1 {R : Type} (k : Nat) (G : KT1 R) (v1 v2 : GV) (h : Heap) : Option R := n3 k (fun x v1 v2 h => kx x (n2 k G v1 h) (G x v2 h)) v1 v2 h
theorem n1_eq {R : Type} (k : Nat) (G : KT1 R) (σ : GS) (h : Heap) : KC k 36 c1 σ h (fun x σ h => G x (σ 2) h) = n1 k G (σ 1) (σ 2) h := (kseq (b := c2) rfl (fun σ h => n2_eq k G σ h)).trans (n3_eq k (fun x v1 v2 h => kx x (n2 k G v1 h) (G x v2 h)) σ h)
noncomputable def c7 : Code := cL c0
@[simp] def n0 {R : Type} (k : Nat) (G : KT1 R) (v0 : GV) (h : Heap) : Option R := kbox v0 h fun v1 h => n1 k G v1 (.str { data := #[] }) h
theorem n0_eq0 {R : Type} (k : Nat) (G : KT1 R) (σ : GS) (h : Heap) : KC k 36 c7 σ h (fun x σ h => kx x (n1 k G (σ 1) (σ 2) h) (G x (σ 2) h)) = n0 k G (σ 0) h := by kernel_rfl
theorem n0_eq {R : Type} (k : Nat) (G : KT1 R) (σ : GS) (h : Heap) : KC k 36 c0 σ h (fun x σ h => G x (σ 2) h) = n0 k G (σ 0) h := (kseq (b := c1) rfl (fun σ h => n1_eq k G σ h)).trans (n0_eq0 k G σ h)
def run {R : Type} (k : Nat) (a0 : GV) (h : Heap) (fin : GV → Heap → Option R) : Option R := n0 k (fun x v2 h => kend x (fin v2 h)) a0 h
theorem run_eq {R : Type} (k : Nat) (a0 : GV) (h : Heap) (fin : GV → Heap → Option R) : kfun PP cfg NN HH k fn.spec_l18Show [a0] h fin = run k a0 h fin := (kfun_eq (nt := 36) (c := c0) (show PP.funcs[fn.spec_l18Show]? = some Tryd.f74 by kernel_rfl) (by kernel_rfl) (by kernel_rfl) (fun x σ h => by cases x <;> kernel_rfl)).trans (n0_eq k (fun x v2 h => kend x (fin v2 h)) _ h)
theorem gives {k : Nat} {a0 : GV} {v : GV} (e : run k a0 [] finN = some v) : NN fn.spec_l18Show [a0] = some v := nω_of (by kernel_rfl) ((run_eq k a0 [] finN).trans e)
end S.spec_l18Show
/-! impl_spaced -/
namespace S.impl_spaced
noncomputable def c0 : Code := bodyOf Tryd.f75
noncomputable def c1 : Code := cR c0
noncomputable def c2 : Code := cR c1
noncomputable def c3 : Code := cR c2
@[simp] def n3 {R : Type} (k : Nat) (G : KT1 R) (v3 : GV) (h : Heap) : Option R := (kN NN fn.strings_Join [v3, (.str { data := #[32] })] h).bind fun v20 => G .ret v20 h
theorem n3_eq {R : Type} (k : Nat) (G : KT1 R) (σ : GS) (h : Heap) : KC k 21 c3 σ h (fun x σ h => G x (σ 2) h) = n3 k G (σ 3) h := by kernel_rfl
noncomputable def c4 : Code := cL c2
noncomputable def c5 : Code := cR c4
noncomputable def c6 : Code := cL c5
noncomputable def c7 : Code := cL c6
noncomputable def c8 : Code := cR c7
noncomputable def c9 : Code := cR c8
noncomputable def c10 : Code := cR c9
@[simp] def n10 {R : Type} (k : Nat) (G : KT5 R) (v2 v3 v7 v8 v9 : GV) (h : Heap) : Option R := (kbin .add v9 (.int .i64 1)).bind fun v18 => G .nrm v2 v3 v7 v8 v18 h
theorem n10_eq {R : Type} (k : Nat) (G : KT5 R) (σ : GS) (h : Heap) : KC k 21 c10 σ h (fun x σ h => G x (σ 2) (σ 3) (σ 7) (σ 8) (σ 9) h) = n10 k G (σ 2) (σ 3) (σ 7) (σ 8) (σ 9) h := by kernel_rfl
noncomputable def c11 : Code := cL c9
noncomputable def c12 : Code := cL c11
@[simp] def n12 {R : Type} (k : Nat) (G : KT5 R) (v2 v3 v7 v8 v9 : GV) (h : Heap) : Option R := (kia 1 v7 v9).bind fun v11 => (kload1 h v11).bind fun v12 => (kN NN fn.impl_decimal [v12] h).bind fun v15 => (gfill (fun i => some (i * 1, 1)) (zeros [(.str { data := #[] })] 1) [(0, v15)]).bind fun c => kbs 1 1 c h fun v16 h => (kapp [(.str { data := #[] })] 1 16 v3 v16 h).bind fun r => kr r fun v17 h => G .nrm v2 v17 v7 v8 v9 h
theorem n12_eq {R : Type} (k : Nat) (G : KT5 R) (σ : GS) (h : Heap) : KC k 21 c12 σ h (fun x σ h => G x (σ 2) (σ 3) (σ 7) (σ 8) (σ 9) h) = n12 k G (σ 2) (σ 3) (σ 7) (σ 8) (σ 9) h := by kernel_rfl
@[simp] def n11 {R : Type} (k : Nat) (G : KT5 R) (v2 v3 v7 v8 v9 : GV) (h : Heap) : Option R := n12 k (fun x v2 v3 v7 v8 v9 h => kb 1 x fun x => G x v2 v3 v7 v8 v9 h) v2 v3 v7 v8 v9 h
theorem n11_eq {R : Type} (k : Nat) (G : KT5 R) (σ : GS) (h : Heap) : KC k 21 c11 σ h (fun x σ h => G x (σ 2) (σ 3) (σ 7) (σ 8) (σ 9) h) = n11 k G (σ 2) (σ 3) (σ 7) (σ 8) (σ 9) h := (kblock_eq (a := c12) rfl).trans (n12_eq k (fun x v2 v3 v7 v8 v9 h => kb 1 x fun x => G x v2 v3 v7 v8 v9 h) σ h)
@[simp] def n9 {R : Type} (k : Nat) (G : KT5 R) (v2 v3 v7 v8 v9 : GV) (h : Heap) : Option R := n11 k (fun x v2 v3 v7 v8 v9 h => kx x (n10 k G v2 v3 v7 v8 v9 h) (G x v2 v3 v7 v8 v9 h)) v2 v3 v7 v8 v9 h
theorem n9_eq {R : Type} (k : Nat) (G : KT5 R) (σ : GS) (h : Heap) : KC k 21 c9 σ h (fun x σ h => G x (σ 2) (σ 3) (σ 7) (σ 8) (σ 9) h) = n9 k G (σ 2) (σ 3) (σ 7) (σ 8) (σ 9) h := (kseq (b := c10) rfl (fun σ h => n10_eq k G σ h)).trans (n11_eq k (fun x v2 v3 v7 v8 v9 h => kx x (n10 k G v2 v3 v7 v8 v9 h) (G x v2 v3 v7 v8 v9 h)) σ h)
noncomputable def c13 : Code := cL c8
@[simp] def n8 {R : Type} (k : Nat) (G : KT5 R) (v2 v3 v7 v8 v9 v10 : GV) (h : Heap) : Option R := kcond v10 (n9 k G v2 v3 v7 v8 v9 h) (G (.ext 0) v2 v3 v7 v8 v9 h)
theorem n8_eq0 {R : Type} (k : Nat) (G : KT5 R) (σ : GS) (h : Heap) : KC k 21 c13 σ h (fun x σ h => kx x (n9 k G (σ 2) (σ 3) (σ 7) (σ 8) (σ 9) h) (G x (σ 2) (σ 3) (σ 7) (σ 8) (σ 9) h)) = n8 k G (σ 2) (σ 3) (σ 7) (σ 8) (σ 9) (σ 10) h := by kernel_rfl
theorem n8_eq {R : Type} (k : Nat) (G : KT5 R) (σ : GS) (h : Heap) : KC k 21 c8 σ h (fun x σ h => G x (σ 2) (σ 3) (σ 7) (σ 8) (σ 9) h) = n8 k G (σ 2) (σ 3) (σ 7) (σ 8) (σ 9) (σ 10) h := (kseq (b := c9) rfl (fun σ h => n9_eq k G σ h)).trans (n8_eq0 k G σ h)
noncomputable def c14 : Code := cL c7
@[simp] def n7 {R : Type} (k : Nat) (G : KT5 R) (v2 v3 v7 v8 v9 : GV) (h : Heap) : Option R := (kbin .lss v9 v8).bind fun v10 => n8 k G v2 v3 v7 v8 v9 v10 h
theorem n7_eq0 {R : Type} (k : Nat) (G : KT5 R) (σ : GS) (h : Heap) : KC k 21 c14 σ h (fun x σ h => kx x (n8 k G (σ 2) (σ 3) (σ 7) (σ 8) (σ 9) (σ 10) h) (G x (σ 2) (σ 3) (σ 7) (σ 8) (σ 9) h)) = n7 k G (σ 2) (σ 3) (σ 7) (σ 8) (σ 9) h := by kernel_rfl
theorem n7_eq {R : Type} (k : Nat) (G : KT5 R) (σ : GS) (h : Heap) : KC k 21 c7 σ h (fun x σ h => G x (σ 2) (σ 3) (σ 7) (σ 8) (σ 9) h) = n7 k G (σ 2) (σ 3) (σ 7) (σ 8) (σ 9) h := (kseq (b := c8) rfl (fun σ h => n8_eq k G σ h)).trans (n7_eq0 k G σ h)
def l6 {R : Type} (k : Nat) (G : KT2 R) : Nat → GV → GV → GV → GV → GV → Heap → Option R
  | 0, _, _, _, _, _, _ => none
  | r + 1, v2, v3, v7, v8, v9, h => n7 k (fun x v2 v3 v7 v8 v9 h => kx x (l6 k G r v2 v3 v7 v8 v9 h) (G x v2 v3 h)) v2 v3 v7 v8 v9 h
theorem l6_eq {R : Type} (k : Nat) (G : KT2 R) : ∀ (r : Nat) (σ : GS) (h : Heap), kloop (fun σ h K => KC k 21 c7 σ h K) r σ h (fun x σ h => G x (σ 2) (σ 3) h) = l6 k G r (σ 2) (σ 3) (σ 7) (σ 8) (σ 9) h
  | 0, _, _ => rfl
  | r + 1, σ, h => (kloop_eq (fun σ h => l6_eq k G r σ h)).trans (n7_eq k (fun x v2 v3 v7 v8 v9 h => kx x (l6 k G r v2 v3 v7 v8 v9 h) (G x v2 v3 h)) σ h)
@[simp] def n6 {R : Type} (k : Nat) (G : KT2 R) (v2 v3 v7 v8 v9 : GV) (h : Heap) : Option R := l6 k G k v2 v3 v7 v8 v9 h
theorem n6_eq {R : Type} (k : Nat) (G : KT2 R) (σ : GS) (h : Heap) : KC k 21 c6 σ h (fun x σ h => G x (σ 2) (σ 3) h) = n6 k G (σ 2) (σ 3) (σ 7) (σ 8) (σ 9) h := (kloopc_eq (a := c7) rfl).trans (l6_eq k G k σ h)
@[simp] def n5 {R : Type} (k : Nat) (G : KT2 R) (v2 v3 v7 v8 v9 : GV) (h : Heap) : Option R := n6 k (fun x v2 v3 h => kb 0 x fun x => G x v2 v3 h) v2 v3 v7 v8 v9 h
theorem n5_eq {R : Type} (k : Nat) (G : KT2 R) (σ : GS) (h : Heap) : KC k 21 c5 σ h (fun x σ h => G x (σ 2) (σ 3) h) = n5 k G (σ 2) (σ 3) (σ 7) (σ 8) (σ 9) h := (kblock_eq (a := c6) rfl).trans (n6_eq k (fun x v2 v3 h => kb 0 x fun x => G x v2 v3 h) σ h)
noncomputable def c15 : Code := cL c4
@[simp] def n4 {R : Type} (k : Nat) (G : KT2 R) (v0 v2 v3 : GV) (h : Heap) : Option R := (klen v0).bind fun v8 => n5 k G v2 v3 v0 v8 (.int .i64 0) h
theorem n4_eq0 {R : Type} (k : Nat) (G : KT2 R) (σ : GS) (h : Heap) : KC k 21 c15 σ h (fun x σ h => kx x (n5 k G (σ 2) (σ 3) (σ 7) (σ 8) (σ 9) h) (G x (σ 2) (σ 3) h)) = n4 k G (σ 0) (σ 2) (σ 3) h := by kernel_rfl
theorem n4_eq {R : Type} (k : Nat) (G : KT2 R) (σ : GS) (h : Heap) : KC k 21 c4 σ h (fun x σ h => G x (σ 2) (σ 3) h) = n4 k G (σ 0) (σ 2) (σ 3) h := (kseq (b := c5) rfl (fun σ h => n5_eq k G σ h)).trans (n4_eq0 k G σ h)
@[simp] def n2 {R : Type} (k : Nat) (G : KT1 R) (v0 v2 v3 : GV) (h : Heap) : Option R := n4 k (fun x v2 v3 h => kx x (n3 k G v3 h) (G x v2 h)) v0 v2 v3 h
theorem n2_eq {R : Type} (k : Nat) (G : KT1 R) (σ : GS) (h : Heap) : KC k 21 c2 σ h (fun x σ h => G x (σ 2) h) = n2 k G (σ 0) (σ 2) (σ 3) h := (kseq (b := c3) rfl (fun σ h => n3_eq k G σ h)).trans (n4_eq k (fun x v2 v3 h => kx x (n3 k G v3 h) (G x v2 h)) σ h)
noncomputable def c16 : Code := cL c1
@[simp] def n1 {R : Type} (k : Nat) (G : KT1 R) (v0 v2 : GV) (h : Heap) : Option R := n2 k G v0 v2 .emp h
theorem n1_eq0 {R : Type} (k : Nat) (G : KT1 R) (σ : GS) (h : Heap) : KC k 21 c16 σ h (fun x σ h => kx x (n2 k G (σ 0) (σ 2) (σ 3) h) (G x (σ 2) h)) = n1 k G (σ 0) (σ 2) h := by kernel_rfl
theorem n1_eq {R : Type} (k : Nat) (G : KT1 R) (σ : GS) (h : Heap) : KC k 21 c1 σ h (fun x σ h => G x (σ 2) h) = n1 k G (σ 0) (σ 2) h := (kseq (b := c2) rfl (fun σ h => n2_eq k G σ h)).trans (n1_eq0 k G σ h)
noncomputable def c17 : Code := cL c0
@[simp] def n0 {R : Type} (k : Nat) (G : KT1 R) (v0 : GV) (h : Heap) : Option R := n1 k G v0 (.str { data := #[] }) h
theorem n0_eq0 {R : Type} (k : Nat) (G : KT1 R) (σ : GS) (h : Heap) : KC k 21 c17 σ h (fun x σ h => kx x (n1 k G (σ 0) (σ 2) h) (G x (σ 2) h)) = n0 k G (σ 0) h := by kernel_rfl
theorem n0_eq {R : Type} (k : Nat) (G : KT1 R) (σ : GS) (h : Heap) : KC k 21 c0 σ h (fun x σ h => G x (σ 2) h) = n0 k G (σ 0) h := (kseq (b := c1) rfl (fun σ h => n1_eq k G σ h)).trans (n0_eq0 k G σ h)
def run {R : Type} (k : Nat) (a0 : GV) (h : Heap) (fin : GV → Heap → Option R) : Option R := n0 k (fun x v2 h => kend x (fin v2 h)) a0 h
theorem run_eq {R : Type} (k : Nat) (a0 : GV) (h : Heap) (fin : GV → Heap → Option R) : kfun PP cfg NN HH k fn.impl_spaced [a0] h fin = run k a0 h fin := (kfun_eq (nt := 21) (c := c0) (show PP.funcs[fn.impl_spaced]? = some Tryd.f75 by kernel_rfl) (by kernel_rfl) (by kernel_rfl) (fun x σ h => by cases x <;> kernel_rfl)).trans (n0_eq k (fun x v2 h => kend x (fin v2 h)) _ h)
theorem gives {k : Nat} {a0 : GV} {v : GV} (e : run k a0 [] finN = some v) : NN fn.impl_spaced [a0] = some v := nω_of (by kernel_rfl) ((run_eq k a0 [] finN).trans e)
end S.impl_spaced
/-! impl_hex -/
namespace S.impl_hex
noncomputable def c0 : Code := bodyOf Tryd.f76
noncomputable def c1 : Code := cR c0
noncomputable def c2 : Code := cR c1
noncomputable def c3 : Code := cR c2
@[simp] def n3 {R : Type} (k : Nat) (G : KT1 R) (v3 : GV) (h : Heap) : Option R := (kbstr h v3).bind fun v26 => G .ret v26 h
theorem n3_eq {R : Type} (k : Nat) (G : KT1 R) (σ : GS) (h : Heap) : KC k 27 c3 σ h (fun x σ h => G x (σ 2) h) = n3 k G (σ 3) h := by kernel_rfl
noncomputable def c4 : Code := cL c2
noncomputable def c5 : Code := cR c4
noncomputable def c6 : Code := cL c5
noncomputable def c7 : Code := cL c6
noncomputable def c8 : Code := cR c7
noncomputable def c9 : Code := cR c8
noncomputable def c10 : Code := cR c9
@[simp] def n10 {R : Type} (k : Nat) (G : KT5 R) (v0 v2 v3 v7 v8 : GV) (h : Heap) : Option R := (kbin .add v8 (.int .i64 1)).bind fun v24 => G .nrm v0 v2 v3 v7 v24 h
theorem n10_eq {R : Type} (k : Nat) (G : KT5 R) (σ : GS) (h : Heap) : KC k 27 c10 σ h (fun x σ h => G x (σ 0) (σ 2) (σ 3) (σ 7) (σ 8) h) = n10 k G (σ 0) (σ 2) (σ 3) (σ 7) (σ 8) h := by kernel_rfl
noncomputable def c11 : Code := cL c9
noncomputable def c12 : Code := cL c11
@[simp] def n12 {R : Type} (k : Nat) (G : KT5 R) (v0 v2 v3 v7 v8 : GV) (h : Heap) : Option R := (kbyte v0 v8).bind fun v14 => (kbin .quo v14 (.int .u8 16)).bind fun v15 => (kbyte (.str { data := #[48, 49, 50, 51, 52, 53, 54, 55, 56, 57, 97, 98, 99, 100, 101, 102] }) v15).bind fun v16 => (kbyte v0 v8).bind fun v19 => (kbin .rem v19 (.int .u8 16)).bind fun v20 => (kbyte (.str { data := #[48, 49, 50, 51, 52, 53, 54, 55, 56, 57, 97, 98, 99, 100, 101, 102] }) v20).bind fun v21 => (gfill (fun i => some (i * 1, 1)) (zeros [(.int .u8 0)] 2) [(0, v16), (1, v21)]).bind fun c => kbs 2 1 c h fun v22 h => (kapp [(.int .u8 0)] 1 1 v3 v22 h).bind fun r => kr r fun v23 h => G .nrm v0 v2 v23 v7 v8 h
theorem n12_eq {R : Type} (k : Nat) (G : KT5 R) (σ : GS) (h : Heap) : KC k 27 c12 σ h (fun x σ h => G x (σ 0) (σ 2) (σ 3) (σ 7) (σ 8) h) = n12 k G (σ 0) (σ 2) (σ 3) (σ 7) (σ 8) h := by kernel_rfl
@[simp] def n11 {R : Type} (k : Nat) (G : KT5 R) (v0 v2 v3 v7 v8 : GV) (h : Heap) : Option R := n12 k (fun x v0 v2 v3 v7 v8 h => kb 1 x fun x => G x v0 v2 v3 v7 v8 h) v0 v2 v3 v7 v8 h
theorem n11_eq {R : Type} (k : Nat) (G : KT5 R) (σ : GS) (h : Heap) : KC k 27 c11 σ h (fun x σ h => G x (σ 0) (σ 2) (σ 3) (σ 7) (σ 8) h) = n11 k G (σ 0) (σ 2) (σ 3) (σ 7) (σ 8) h := (kblock_eq (a := c12) rfl).trans (n12_eq k (fun x v0 v2 v3 v7 v8 h => kb 1 x fun x => G x v0 v2 v3 v7 v8 h) σ h)
@[simp] def n9 {R : Type} (k : Nat) (G : KT5 R) (v0 v2 v3 v7 v8 : GV) (h : Heap) : Option R := n11 k (fun x v0 v2 v3 v7 v8 h => kx x (n10 k G v0 v2 v3 v7 v8 h) (G x v0 v2 v3 v7 v8 h)) v0 v2 v3 v7 v8 h
theorem n9_eq {R : Type} (k : Nat) (G : KT5 R) (σ : GS) (h : Heap) : KC k 27 c9 σ h (fun x σ h => G x (σ 0) (σ 2) (σ 3) (σ 7) (σ 8) h) = n9 k G (σ 0) (σ 2) (σ 3) (σ 7) (σ 8) h := (kseq (b := c10) rfl (fun σ h => n10_eq k G σ h)).trans (n11_eq k (fun x v0 v2 v3 v7 v8 h => kx x (n10 k G v0 v2 v3 v7 v8 h) (G x v0 v2 v3 v7 v8 h)) σ h)
noncomputable def c13 : Code := cL c8
@[simp] def n8 {R : Type} (k : Nat) (G : KT5 R) (v0 v2 v3 v7 v8 v9 : GV) (h : Heap) : Option R := kcond v9 (n9 k G v0 v2 v3 v7 v8 h) (G (.ext 0) v0 v2 v3 v7 v8 h)
theorem n8_eq0 {R : Type} (k : Nat) (G : KT5 R) (σ : GS) (h : Heap) : KC k 27 c13 σ h (fun x σ h => kx x (n9 k G (σ 0) (σ 2) (σ 3) (σ 7) (σ 8) h) (G x (σ 0) (σ 2) (σ 3) (σ 7) (σ 8) h)) = n8 k G (σ 0) (σ 2) (σ 3) (σ 7) (σ 8) (σ 9) h := by kernel_rfl
theorem n8_eq {R : Type} (k : Nat) (G : KT5 R) (σ : GS) (h : Heap) : KC k 27 c8 σ h (fun x σ h => G x (σ 0) (σ 2) (σ 3) (σ 7) (σ 8) h) = n8 k G (σ 0) (σ 2) (σ 3) (σ 7) (σ 8) (σ 9) h := (kseq (b := c9) rfl (fun σ h => n9_eq k G σ h)).trans (n8_eq0 k G σ h)
noncomputable def c14 : Code := cL c7
@[simp] def n7 {R : Type} (k : Nat) (G : KT5 R) (v0 v2 v3 v7 v8 : GV) (h : Heap) : Option R := (kbin .lss v8 v7).bind fun v9 => n8 k G v0 v2 v3 v7 v8 v9 h
theorem n7_eq0 {R : Type} (k : Nat) (G : KT5 R) (σ : GS) (h : Heap) : KC k 27 c14 σ h (fun x σ h => kx x (n8 k G (σ 0) (σ 2) (σ 3) (σ 7) (σ 8) (σ 9) h) (G x (σ 0) (σ 2) (σ 3) (σ 7) (σ 8) h)) = n7 k G (σ 0) (σ 2) (σ 3) (σ 7) (σ 8) h := by kernel_rfl
theorem n7_eq {R : Type} (k : Nat) (G : KT5 R) (σ : GS) (h : Heap) : KC k 27 c7 σ h (fun x σ h => G x (σ 0) (σ 2) (σ 3) (σ 7) (σ 8) h) = n7 k G (σ 0) (σ 2) (σ 3) (σ 7) (σ 8) h := (kseq (b := c8) rfl (fun σ h => n8_eq k G σ h)).trans (n7_eq0 k G σ h)
def l6 {R : Type} (k : Nat) (G : KT2 R) : Nat → GV → GV → GV → GV → GV → Heap → Option R
  | 0, _, _, _, _, _, _ => none
  | r + 1, v0, v2, v3, v7, v8, h => n7 k (fun x v0 v2 v3 v7 v8 h => kx x (l6 k G r v0 v2 v3 v7 v8 h) (G x v2 v3 h)) v0 v2 v3 v7 v8 h
theorem l6_eq {R : Type} (k : Nat) (G : KT2 R) : ∀ (r : Nat) (σ : GS) (h : Heap), kloop (fun σ h K => KC k 27 c7 σ h K) r σ h (fun x σ h => G x (σ 2) (σ 3) h) = l6 k G r (σ 0) (σ 2) (σ 3) (σ 7) (σ 8) h
  | 0, _, _ => rfl
  | r + 1, σ, h => (kloop_eq (fun σ h => l6_eq k G r σ h)).trans (n7_eq k (fun x v0 v2 v3 v7 v8 h => kx x (l6 k G r v0 v2 v3 v7 v8 h) (G x v2 v3 h)) σ h)
@[simp] def n6 {R : Type} (k : Nat) (G : KT2 R) (v0 v2 v3 v7 v8 : GV) (h : Heap) : Option R := l6 k G k v0 v2 v3 v7 v8 h
theorem n6_eq {R : Type} (k : Nat) (G : KT2 R) (σ : GS) (h : Heap) : KC k 27 c6 σ h (fun x σ h => G x (σ 2) (σ 3) h) = n6 k G (σ 0) (σ 2) (σ 3) (σ 7) (σ 8) h := (kloopc_eq (a := c7) rfl).trans (l6_eq k G k σ h)
@[simp] def n5 {R : Type} (k : Nat) (G : KT2 R) (v0 v2 v3 v7 v8 : GV) (h : Heap) : Option R := n6 k (fun x v2 v3 h => kb 0 x fun x => G x v2 v3 h) v0 v2 v3 v7 v8 h
theorem n5_eq {R : Type} (k : Nat) (G : KT2 R) (σ : GS) (h : Heap) : KC k 27 c5 σ h (fun x σ h => G x (σ 2) (σ 3) h) = n5 k G (σ 0) (σ 2) (σ 3) (σ 7) (σ 8) h := (kblock_eq (a := c6) rfl).trans (n6_eq k (fun x v2 v3 h => kb 0 x fun x => G x v2 v3 h) σ h)
noncomputable def c15 : Code := cL c4
@[simp] def n4 {R : Type} (k : Nat) (G : KT2 R) (v0 v2 v3 : GV) (h : Heap) : Option R := (klenS v0).bind fun v7 => n5 k G v0 v2 v3 v7 (.int .i64 0) h
theorem n4_eq0 {R : Type} (k : Nat) (G : KT2 R) (σ : GS) (h : Heap) : KC k 27 c15 σ h (fun x σ h => kx x (n5 k G (σ 0) (σ 2) (σ 3) (σ 7) (σ 8) h) (G x (σ 2) (σ 3) h)) = n4 k G (σ 0) (σ 2) (σ 3) h := by kernel_rfl
theorem n4_eq {R : Type} (k : Nat) (G : KT2 R) (σ : GS) (h : Heap) : KC k 27 c4 σ h (fun x σ h => G x (σ 2) (σ 3) h) = n4 k G (σ 0) (σ 2) (σ 3) h := (kseq (b := c5) rfl (fun σ h => n5_eq k G σ h)).trans (n4_eq0 k G σ h)
@[simp] def n2 {R : Type} (k : Nat) (G : KT1 R) (v0 v2 v3 : GV) (h : Heap) : Option R := n4 k (fun x v2 v3 h => kx x (n3 k G v3 h) (G x v2 h)) v0 v2 v3 h
theorem n2_eq {R : Type} (k : Nat) (G : KT1 R) (σ : GS) (h : Heap) : KC k 27 c2 σ h (fun x σ h => G x (σ 2) h) = n2 k G (σ 0) (σ 2) (σ 3) h := (kseq (b := c3) rfl (fun σ h => n3_eq k G σ h)).trans (n4_eq k (fun x v2 v3 h => kx x (n3 k G v3 h) (G x v2 h)) σ h)
noncomputable def c16 : Code := cL c1
@[simp] def n1 {R : Type} (k : Nat) (G : KT1 R) (v0 v2 : GV) (h : Heap) : Option R := n2 k G v0 v2 .emp h
theorem n1_eq0 {R : Type} (k : Nat) (G : KT1 R) (σ : GS) (h : Heap) : KC k 27 c16 σ h (fun x σ h => kx x (n2 k G (σ 0) (σ 2) (σ 3) h) (G x (σ 2) h)) = n1 k G (σ 0) (σ 2) h := by kernel_rfl
theorem n1_eq {R : Type} (k : Nat) (G : KT1 R) (σ : GS) (h : Heap) : KC k 27 c1 σ h (fun x σ h => G x (σ 2) h) = n1 k G (σ 0) (σ 2) h := (kseq (b := c2) rfl (fun σ h => n2_eq k G σ h)).trans (n1_eq0 k G σ h)
noncomputable def c17 : Code := cL c0
@[simp] def n0 {R : Type} (k : Nat) (G : KT1 R) (v0 : GV) (h : Heap) : Option R := n1 k G v0 (.str { data := #[] }) h
theorem n0_eq0 {R : Type} (k : Nat) (G : KT1 R) (σ : GS) (h : Heap) : KC k 27 c17 σ h (fun x σ h => kx x (n1 k G (σ 0) (σ 2) h) (G x (σ 2) h)) = n0 k G (σ 0) h := by kernel_rfl
theorem n0_eq {R : Type} (k : Nat) (G : KT1 R) (σ : GS) (h : Heap) : KC k 27 c0 σ h (fun x σ h => G x (σ 2) h) = n0 k G (σ 0) h := (kseq (b := c1) rfl (fun σ h => n1_eq k G σ h)).trans (n0_eq0 k G σ h)
def run {R : Type} (k : Nat) (a0 : GV) (h : Heap) (fin : GV → Heap → Option R) : Option R := n0 k (fun x v2 h => kend x (fin v2 h)) a0 h
theorem run_eq {R : Type} (k : Nat) (a0 : GV) (h : Heap) (fin : GV → Heap → Option R) : kfun PP cfg NN HH k fn.impl_hex [a0] h fin = run k a0 h fin := (kfun_eq (nt := 27) (c := c0) (show PP.funcs[fn.impl_hex]? = some Tryd.f76 by kernel_rfl) (by kernel_rfl) (by kernel_rfl) (fun x σ h => by cases x <;> kernel_rfl)).trans (n0_eq k (fun x v2 h => kend x (fin v2 h)) _ h)
theorem gives {k : Nat} {a0 : GV} {v : GV} (e : run k a0 [] finN = some v) : NN fn.impl_hex [a0] = some v := nω_of (by kernel_rfl) ((run_eq k a0 [] finN).trans e)
end S.impl_hex
/-! impl_begun -/
namespace S.impl_begun
noncomputable def c0 : Code := bodyOf Tryd.f89
noncomputable def c1 : Code := cR c0
noncomputable def c2 : Code := cR c1
@[simp] def n2 {R : Type} (k : Nat) (G : KT1 R) (v0 v2 : GV) (h : Heap) : Option R := (kN NN fn.impl_Mix [v0, v2] h).bind fun v22 => G .ret v22 h
theorem n2_eq {R : Type} (k : Nat) (G : KT1 R) (σ : GS) (h : Heap) : KC k 23 c2 σ h (fun x σ h => G x (σ 6) h) = n2 k G (σ 0) (σ 2) h := by kernel_rfl
noncomputable def c3 : Code := cL c1
noncomputable def c4 : Code := cR c3
noncomputable def c5 : Code := cL c4
noncomputable def c6 : Code := cL c5
noncomputable def c7 : Code := cR c6
noncomputable def c8 : Code := cR c7
noncomputable def c9 : Code := cR c8
@[simp] def n9 {R : Type} (k : Nat) (G : KT6 R) (v0 v1 v2 v6 v9 v10 : GV) (h : Heap) : Option R := (kbin .add v10 (.int .i64 1)).bind fun v19 => G .nrm v0 v1 v2 v6 v9 v19 h
theorem n9_eq {R : Type} (k : Nat) (G : KT6 R) (σ : GS) (h : Heap) : KC k 23 c9 σ h (fun x σ h => G x (σ 0) (σ 1) (σ 2) (σ 6) (σ 9) (σ 10) h) = n9 k G (σ 0) (σ 1) (σ 2) (σ 6) (σ 9) (σ 10) h := by kernel_rfl
noncomputable def c10 : Code := cL c8
noncomputable def c11 : Code := cL c10
@[simp] def n11 {R : Type} (k : Nat) (G : KT6 R) (v0 v1 v2 v6 v9 v10 : GV) (h : Heap) : Option R := (kbyte v1 v10).bind fun v16 => (kconvI .i64 v16).bind fun v17 => (kN NN fn.impl_Mix [v0, v17] h).bind fun v18 => G .nrm v18 v1 v2 v6 v9 v10 h
theorem n11_eq {R : Type} (k : Nat) (G : KT6 R) (σ : GS) (h : Heap) : KC k 23 c11 σ h (fun x σ h => G x (σ 0) (σ 1) (σ 2) (σ 6) (σ 9) (σ 10) h) = n11 k G (σ 0) (σ 1) (σ 2) (σ 6) (σ 9) (σ 10) h := by kernel_rfl
@[simp] def n10 {R : Type} (k : Nat) (G : KT6 R) (v0 v1 v2 v6 v9 v10 : GV) (h : Heap) : Option R := n11 k (fun x v0 v1 v2 v6 v9 v10 h => kb 1 x fun x => G x v0 v1 v2 v6 v9 v10 h) v0 v1 v2 v6 v9 v10 h
theorem n10_eq {R : Type} (k : Nat) (G : KT6 R) (σ : GS) (h : Heap) : KC k 23 c10 σ h (fun x σ h => G x (σ 0) (σ 1) (σ 2) (σ 6) (σ 9) (σ 10) h) = n10 k G (σ 0) (σ 1) (σ 2) (σ 6) (σ 9) (σ 10) h := (kblock_eq (a := c11) rfl).trans (n11_eq k (fun x v0 v1 v2 v6 v9 v10 h => kb 1 x fun x => G x v0 v1 v2 v6 v9 v10 h) σ h)
@[simp] def n8 {R : Type} (k : Nat) (G : KT6 R) (v0 v1 v2 v6 v9 v10 : GV) (h : Heap) : Option R := n10 k (fun x v0 v1 v2 v6 v9 v10 h => kx x (n9 k G v0 v1 v2 v6 v9 v10 h) (G x v0 v1 v2 v6 v9 v10 h)) v0 v1 v2 v6 v9 v10 h
theorem n8_eq {R : Type} (k : Nat) (G : KT6 R) (σ : GS) (h : Heap) : KC k 23 c8 σ h (fun x σ h => G x (σ 0) (σ 1) (σ 2) (σ 6) (σ 9) (σ 10) h) = n8 k G (σ 0) (σ 1) (σ 2) (σ 6) (σ 9) (σ 10) h := (kseq (b := c9) rfl (fun σ h => n9_eq k G σ h)).trans (n10_eq k (fun x v0 v1 v2 v6 v9 v10 h => kx x (n9 k G v0 v1 v2 v6 v9 v10 h) (G x v0 v1 v2 v6 v9 v10 h)) σ h)
noncomputable def c12 : Code := cL c7
@[simp] def n7 {R : Type} (k : Nat) (G : KT6 R) (v0 v1 v2 v6 v9 v10 v11 : GV) (h : Heap) : Option R := kcond v11 (n8 k G v0 v1 v2 v6 v9 v10 h) (G (.ext 0) v0 v1 v2 v6 v9 v10 h)
theorem n7_eq0 {R : Type} (k : Nat) (G : KT6 R) (σ : GS) (h : Heap) : KC k 23 c12 σ h (fun x σ h => kx x (n8 k G (σ 0) (σ 1) (σ 2) (σ 6) (σ 9) (σ 10) h) (G x (σ 0) (σ 1) (σ 2) (σ 6) (σ 9) (σ 10) h)) = n7 k G (σ 0) (σ 1) (σ 2) (σ 6) (σ 9) (σ 10) (σ 11) h := by kernel_rfl
theorem n7_eq {R : Type} (k : Nat) (G : KT6 R) (σ : GS) (h : Heap) : KC k 23 c7 σ h (fun x σ h => G x (σ 0) (σ 1) (σ 2) (σ 6) (σ 9) (σ 10) h) = n7 k G (σ 0) (σ 1) (σ 2) (σ 6) (σ 9) (σ 10) (σ 11) h := (kseq (b := c8) rfl (fun σ h => n8_eq k G σ h)).trans (n7_eq0 k G σ h)
noncomputable def c13 : Code := cL c6
@[simp] def n6 {R : Type} (k : Nat) (G : KT6 R) (v0 v1 v2 v6 v9 v10 : GV) (h : Heap) : Option R := (kbin .lss v10 v9).bind fun v11 => n7 k G v0 v1 v2 v6 v9 v10 v11 h
theorem n6_eq0 {R : Type} (k : Nat) (G : KT6 R) (σ : GS) (h : Heap) : KC k 23 c13 σ h (fun x σ h => kx x (n7 k G (σ 0) (σ 1) (σ 2) (σ 6) (σ 9) (σ 10) (σ 11) h) (G x (σ 0) (σ 1) (σ 2) (σ 6) (σ 9) (σ 10) h)) = n6 k G (σ 0) (σ 1) (σ 2) (σ 6) (σ 9) (σ 10) h := by kernel_rfl
theorem n6_eq {R : Type} (k : Nat) (G : KT6 R) (σ : GS) (h : Heap) : KC k 23 c6 σ h (fun x σ h => G x (σ 0) (σ 1) (σ 2) (σ 6) (σ 9) (σ 10) h) = n6 k G (σ 0) (σ 1) (σ 2) (σ 6) (σ 9) (σ 10) h := (kseq (b := c7) rfl (fun σ h => n7_eq k G σ h)).trans (n6_eq0 k G σ h)
def l5 {R : Type} (k : Nat) (G : KT3 R) : Nat → GV → GV → GV → GV → GV → GV → Heap → Option R
  | 0, _, _, _, _, _, _, _ => none
  | r + 1, v0, v1, v2, v6, v9, v10, h => n6 k (fun x v0 v1 v2 v6 v9 v10 h => kx x (l5 k G r v0 v1 v2 v6 v9 v10 h) (G x v0 v2 v6 h)) v0 v1 v2 v6 v9 v10 h
theorem l5_eq {R : Type} (k : Nat) (G : KT3 R) : ∀ (r : Nat) (σ : GS) (h : Heap), kloop (fun σ h K => KC k 23 c6 σ h K) r σ h (fun x σ h => G x (σ 0) (σ 2) (σ 6) h) = l5 k G r (σ 0) (σ 1) (σ 2) (σ 6) (σ 9) (σ 10) h
  | 0, _, _ => rfl
  | r + 1, σ, h => (kloop_eq (fun σ h => l5_eq k G r σ h)).trans (n6_eq k (fun x v0 v1 v2 v6 v9 v10 h => kx x (l5 k G r v0 v1 v2 v6 v9 v10 h) (G x v0 v2 v6 h)) σ h)
@[simp] def n5 {R : Type} (k : Nat) (G : KT3 R) (v0 v1 v2 v6 v9 v10 : GV) (h : Heap) : Option R := l5 k G k v0 v1 v2 v6 v9 v10 h
theorem n5_eq {R : Type} (k : Nat) (G : KT3 R) (σ : GS) (h : Heap) : KC k 23 c5 σ h (fun x σ h => G x (σ 0) (σ 2) (σ 6) h) = n5 k G (σ 0) (σ 1) (σ 2) (σ 6) (σ 9) (σ 10) h := (kloopc_eq (a := c6) rfl).trans (l5_eq k G k σ h)
@[simp] def n4 {R : Type} (k : Nat) (G : KT3 R) (v0 v1 v2 v6 v9 v10 : GV) (h : Heap) : Option R := n5 k (fun x v0 v2 v6 h => kb 0 x fun x => G x v0 v2 v6 h) v0 v1 v2 v6 v9 v10 h
theorem n4_eq {R : Type} (k : Nat) (G : KT3 R) (σ : GS) (h : Heap) : KC k 23 c4 σ h (fun x σ h => G x (σ 0) (σ 2) (σ 6) h) = n4 k G (σ 0) (σ 1) (σ 2) (σ 6) (σ 9) (σ 10) h := (kblock_eq (a := c5) rfl).trans (n5_eq k (fun x v0 v2 v6 h => kb 0 x fun x => G x v0 v2 v6 h) σ h)
noncomputable def c14 : Code := cL c3
@[simp] def n3 {R : Type} (k : Nat) (G : KT3 R) (v0 v1 v2 v6 : GV) (h : Heap) : Option R := (klenS v1).bind fun v9 => n4 k G v0 v1 v2 v6 v9 (.int .i64 0) h
theorem n3_eq0 {R : Type} (k : Nat) (G : KT3 R) (σ : GS) (h : Heap) : KC k 23 c14 σ h (fun x σ h => kx x (n4 k G (σ 0) (σ 1) (σ 2) (σ 6) (σ 9) (σ 10) h) (G x (σ 0) (σ 2) (σ 6) h)) = n3 k G (σ 0) (σ 1) (σ 2) (σ 6) h := by kernel_rfl
theorem n3_eq {R : Type} (k : Nat) (G : KT3 R) (σ : GS) (h : Heap) : KC k 23 c3 σ h (fun x σ h => G x (σ 0) (σ 2) (σ 6) h) = n3 k G (σ 0) (σ 1) (σ 2) (σ 6) h := (kseq (b := c4) rfl (fun σ h => n4_eq k G σ h)).trans (n3_eq0 k G σ h)
@[simp] def n1 {R : Type} (k : Nat) (G : KT1 R) (v0 v1 v2 v6 : GV) (h : Heap) : Option R := n3 k (fun x v0 v2 v6 h => kx x (n2 k G v0 v2 h) (G x v6 h)) v0 v1 v2 v6 h
theorem n1_eq {R : Type} (k : Nat) (G : KT1 R) (σ : GS) (h : Heap) : KC k 23 c1 σ h (fun x σ h => G x (σ 6) h) = n1 k G (σ 0) (σ 1) (σ 2) (σ 6) h := (kseq (b := c2) rfl (fun σ h => n2_eq k G σ h)).trans (n3_eq k (fun x v0 v2 v6 h => kx x (n2 k G v0 v2 h) (G x v6 h)) σ h)
noncomputable def c15 : Code := cL c0
@[simp] def n0 {R : Type} (k : Nat) (G : KT1 R) (v0 v1 v2 : GV) (h : Heap) : Option R := n1 k G v0 v1 v2 (.int .i64 0) h
theorem n0_eq0 {R : Type} (k : Nat) (G : KT1 R) (σ : GS) (h : Heap) : KC k 23 c15 σ h (fun x σ h => kx x (n1 k G (σ 0) (σ 1) (σ 2) (σ 6) h) (G x (σ 6) h)) = n0 k G (σ 0) (σ 1) (σ 2) h := by kernel_rfl
theorem n0_eq {R : Type} (k : Nat) (G : KT1 R) (σ : GS) (h : Heap) : KC k 23 c0 σ h (fun x σ h => G x (σ 6) h) = n0 k G (σ 0) (σ 1) (σ 2) h := (kseq (b := c1) rfl (fun σ h => n1_eq k G σ h)).trans (n0_eq0 k G σ h)
def run {R : Type} (k : Nat) (a0 : GV) (a1 : GV) (a2 : GV) (h : Heap) (fin : GV → Heap → Option R) : Option R := n0 k (fun x v6 h => kend x (fin v6 h)) a0 a1 a2 h
theorem run_eq {R : Type} (k : Nat) (a0 : GV) (a1 : GV) (a2 : GV) (h : Heap) (fin : GV → Heap → Option R) : kfun PP cfg NN HH k fn.impl_begun [a0, a1, a2] h fin = run k a0 a1 a2 h fin := (kfun_eq (nt := 23) (c := c0) (show PP.funcs[fn.impl_begun]? = some Tryd.f89 by kernel_rfl) (by kernel_rfl) (by kernel_rfl) (fun x σ h => by cases x <;> kernel_rfl)).trans (n0_eq k (fun x v6 h => kend x (fin v6 h)) _ h)
theorem gives {k : Nat} {a0 : GV} {a1 : GV} {a2 : GV} {v : GV} (e : run k a0 a1 a2 [] finN = some v) : NN fn.impl_begun [a0, a1, a2] = some v := nω_of (by kernel_rfl) ((run_eq k a0 a1 a2 [] finN).trans e)
end S.impl_begun
/-! spec_l14Begin -/
namespace S.spec_l14Begin
noncomputable def c0 : Code := bodyOf Tryd.f94
noncomputable def c1 : Code := cR c0
noncomputable def c2 : Code := cR c1
@[simp] def n2 {R : Type} (k : Nat) (G : KT1 R) (v1 v2 : GV) (h : Heap) : Option R := (kN NN fn.spec_Mix [v2, v1] h).bind fun v22 => G .ret v22 h
theorem n2_eq {R : Type} (k : Nat) (G : KT1 R) (σ : GS) (h : Heap) : KC k 23 c2 σ h (fun x σ h => G x (σ 6) h) = n2 k G (σ 1) (σ 2) h := by kernel_rfl
noncomputable def c3 : Code := cL c1
noncomputable def c4 : Code := cR c3
noncomputable def c5 : Code := cL c4
noncomputable def c6 : Code := cL c5
noncomputable def c7 : Code := cR c6
noncomputable def c8 : Code := cR c7
@[simp] def n8 {R : Type} (k : Nat) (G : KT5 R) (v0 v1 v2 v6 v7 : GV) (h : Heap) : Option R := (kbin .add v7 (.int .i64 1)).bind fun v13 => G .nrm v0 v1 v2 v6 v13 h
theorem n8_eq {R : Type} (k : Nat) (G : KT5 R) (σ : GS) (h : Heap) : KC k 23 c8 σ h (fun x σ h => G x (σ 0) (σ 1) (σ 2) (σ 6) (σ 7) h) = n8 k G (σ 0) (σ 1) (σ 2) (σ 6) (σ 7) h := by kernel_rfl
noncomputable def c9 : Code := cL c7
noncomputable def c10 : Code := cL c9
@[simp] def n10 {R : Type} (k : Nat) (G : KT5 R) (v0 v1 v2 v6 v7 : GV) (h : Heap) : Option R := (kbyte v0 v7).bind fun v17 => (kconvI .i64 v17).bind fun v18 => (kN NN fn.spec_Mix [v2, v18] h).bind fun v19 => G .nrm v0 v1 v19 v6 v7 h
theorem n10_eq {R : Type} (k : Nat) (G : KT5 R) (σ : GS) (h : Heap) : KC k 23 c10 σ h (fun x σ h => G x (σ 0) (σ 1) (σ 2) (σ 6) (σ 7) h) = n10 k G (σ 0) (σ 1) (σ 2) (σ 6) (σ 7) h := by kernel_rfl
@[simp] def n9 {R : Type} (k : Nat) (G : KT5 R) (v0 v1 v2 v6 v7 : GV) (h : Heap) : Option R := n10 k (fun x v0 v1 v2 v6 v7 h => kb 1 x fun x => G x v0 v1 v2 v6 v7 h) v0 v1 v2 v6 v7 h
theorem n9_eq {R : Type} (k : Nat) (G : KT5 R) (σ : GS) (h : Heap) : KC k 23 c9 σ h (fun x σ h => G x (σ 0) (σ 1) (σ 2) (σ 6) (σ 7) h) = n9 k G (σ 0) (σ 1) (σ 2) (σ 6) (σ 7) h := (kblock_eq (a := c10) rfl).trans (n10_eq k (fun x v0 v1 v2 v6 v7 h => kb 1 x fun x => G x v0 v1 v2 v6 v7 h) σ h)
@[simp] def n7 {R : Type} (k : Nat) (G : KT5 R) (v0 v1 v2 v6 v7 : GV) (h : Heap) : Option R := n9 k (fun x v0 v1 v2 v6 v7 h => kx x (n8 k G v0 v1 v2 v6 v7 h) (G x v0 v1 v2 v6 v7 h)) v0 v1 v2 v6 v7 h
theorem n7_eq {R : Type} (k : Nat) (G : KT5 R) (σ : GS) (h : Heap) : KC k 23 c7 σ h (fun x σ h => G x (σ 0) (σ 1) (σ 2) (σ 6) (σ 7) h) = n7 k G (σ 0) (σ 1) (σ 2) (σ 6) (σ 7) h := (kseq (b := c8) rfl (fun σ h => n8_eq k G σ h)).trans (n9_eq k (fun x v0 v1 v2 v6 v7 h => kx x (n8 k G v0 v1 v2 v6 v7 h) (G x v0 v1 v2 v6 v7 h)) σ h)
noncomputable def c11 : Code := cL c6
@[simp] def n6 {R : Type} (k : Nat) (G : KT5 R) (v0 v1 v2 v6 v7 : GV) (h : Heap) : Option R := (klenS v0).bind fun v10 => (kbin .lss v7 v10).bind fun v11 => kcond v11 (n7 k G v0 v1 v2 v6 v7 h) (G (.ext 0) v0 v1 v2 v6 v7 h)
theorem n6_eq0 {R : Type} (k : Nat) (G : KT5 R) (σ : GS) (h : Heap) : KC k 23 c11 σ h (fun x σ h => kx x (n7 k G (σ 0) (σ 1) (σ 2) (σ 6) (σ 7) h) (G x (σ 0) (σ 1) (σ 2) (σ 6) (σ 7) h)) = n6 k G (σ 0) (σ 1) (σ 2) (σ 6) (σ 7) h := by kernel_rfl
theorem n6_eq {R : Type} (k : Nat) (G : KT5 R) (σ : GS) (h : Heap) : KC k 23 c6 σ h (fun x σ h => G x (σ 0) (σ 1) (σ 2) (σ 6) (σ 7) h) = n6 k G (σ 0) (σ 1) (σ 2) (σ 6) (σ 7) h := (kseq (b := c7) rfl (fun σ h => n7_eq k G σ h)).trans (n6_eq0 k G σ h)
def l5 {R : Type} (k : Nat) (G : KT3 R) : Nat → GV → GV → GV → GV → GV → Heap → Option R
  | 0, _, _, _, _, _, _ => none
  | r + 1, v0, v1, v2, v6, v7, h => n6 k (fun x v0 v1 v2 v6 v7 h => kx x (l5 k G r v0 v1 v2 v6 v7 h) (G x v1 v2 v6 h)) v0 v1 v2 v6 v7 h
theorem l5_eq {R : Type} (k : Nat) (G : KT3 R) : ∀ (r : Nat) (σ : GS) (h : Heap), kloop (fun σ h K => KC k 23 c6 σ h K) r σ h (fun x σ h => G x (σ 1) (σ 2) (σ 6) h) = l5 k G r (σ 0) (σ 1) (σ 2) (σ 6) (σ 7) h
  | 0, _, _ => rfl
  | r + 1, σ, h => (kloop_eq (fun σ h => l5_eq k G r σ h)).trans (n6_eq k (fun x v0 v1 v2 v6 v7 h => kx x (l5 k G r v0 v1 v2 v6 v7 h) (G x v1 v2 v6 h)) σ h)
@[simp] def n5 {R : Type} (k : Nat) (G : KT3 R) (v0 v1 v2 v6 v7 : GV) (h : Heap) : Option R := l5 k G k v0 v1 v2 v6 v7 h
theorem n5_eq {R : Type} (k : Nat) (G : KT3 R) (σ : GS) (h : Heap) : KC k 23 c5 σ h (fun x σ h => G x (σ 1) (σ 2) (σ 6) h) = n5 k G (σ 0) (σ 1) (σ 2) (σ 6) (σ 7) h := (kloopc_eq (a := c6) rfl).trans (l5_eq k G k σ h)
@[simp] def n4 {R : Type} (k : Nat) (G : KT3 R) (v0 v1 v2 v6 v7 : GV) (h : Heap) : Option R := n5 k (fun x v1 v2 v6 h => kb 0 x fun x => G x v1 v2 v6 h) v0 v1 v2 v6 v7 h
theorem n4_eq {R : Type} (k : Nat) (G : KT3 R) (σ : GS) (h : Heap) : KC k 23 c4 σ h (fun x σ h => G x (σ 1) (σ 2) (σ 6) h) = n4 k G (σ 0) (σ 1) (σ 2) (σ 6) (σ 7) h := (kblock_eq (a := c5) rfl).trans (n5_eq k (fun x v1 v2 v6 h => kb 0 x fun x => G x v1 v2 v6 h) σ h)
noncomputable def c12 : Code := cL c3
@[simp] def n3 {R : Type} (k : Nat) (G : KT3 R) (v0 v1 v2 v6 : GV) (h : Heap) : Option R := n4 k G v0 v1 v2 v6 (.int .i64 0) h
theorem n3_eq0 {R : Type} (k : Nat) (G : KT3 R) (σ : GS) (h : Heap) : KC k 23 c12 σ h (fun x σ h => kx x (n4 k G (σ 0) (σ 1) (σ 2) (σ 6) (σ 7) h) (G x (σ 1) (σ 2) (σ 6) h)) = n3 k G (σ 0) (σ 1) (σ 2) (σ 6) h := by kernel_rfl
theorem n3_eq {R : Type} (k : Nat) (G : KT3 R) (σ : GS) (h : Heap) : KC k 23 c3 σ h (fun x σ h => G x (σ 1) (σ 2) (σ 6) h) = n3 k G (σ 0) (σ 1) (σ 2) (σ 6) h := (kseq (b := c4) rfl (fun σ h => n4_eq k G σ h)).trans (n3_eq0 k G σ h)
@[simp] def n1 {R : Type} (k : Nat) (G : KT1 R) (v0 v1 v2 v6 : GV) (h : Heap) : Option R := n3 k (fun x v1 v2 v6 h => kx x (n2 k G v1 v2 h) (G x v6 h)) v0 v1 v2 v6 h
theorem n1_eq {R : Type} (k : Nat) (G : KT1 R) (σ : GS) (h : Heap) : KC k 23 c1 σ h (fun x σ h => G x (σ 6) h) = n1 k G (σ 0) (σ 1) (σ 2) (σ 6) h := (kseq (b := c2) rfl (fun σ h => n2_eq k G σ h)).trans (n3_eq k (fun x v1 v2 v6 h => kx x (n2 k G v1 v2 h) (G x v6 h)) σ h)
noncomputable def c13 : Code := cL c0
@[simp] def n0 {R : Type} (k : Nat) (G : KT1 R) (v0 v1 v2 : GV) (h : Heap) : Option R := n1 k G v0 v1 v2 (.int .i64 0) h
theorem n0_eq0 {R : Type} (k : Nat) (G : KT1 R) (σ : GS) (h : Heap) : KC k 23 c13 σ h (fun x σ h => kx x (n1 k G (σ 0) (σ 1) (σ 2) (σ 6) h) (G x (σ 6) h)) = n0 k G (σ 0) (σ 1) (σ 2) h := by kernel_rfl
theorem n0_eq {R : Type} (k : Nat) (G : KT1 R) (σ : GS) (h : Heap) : KC k 23 c0 σ h (fun x σ h => G x (σ 6) h) = n0 k G (σ 0) (σ 1) (σ 2) h := (kseq (b := c1) rfl (fun σ h => n1_eq k G σ h)).trans (n0_eq0 k G σ h)
def run {R : Type} (k : Nat) (a0 : GV) (a1 : GV) (a2 : GV) (h : Heap) (fin : GV → Heap → Option R) : Option R := n0 k (fun x v6 h => kend x (fin v6 h)) a0 a1 a2 h
theorem run_eq {R : Type} (k : Nat) (a0 : GV) (a1 : GV) (a2 : GV) (h : Heap) (fin : GV → Heap → Option R) : kfun PP cfg NN HH k fn.spec_l14Begin [a0, a1, a2] h fin = run k a0 a1 a2 h fin := (kfun_eq (nt := 23) (c := c0) (show PP.funcs[fn.spec_l14Begin]? = some Tryd.f94 by kernel_rfl) (by kernel_rfl) (by kernel_rfl) (fun x σ h => by cases x <;> kernel_rfl)).trans (n0_eq k (fun x v6 h => kend x (fin v6 h)) _ h)
theorem gives {k : Nat} {a0 : GV} {a1 : GV} {a2 : GV} {v : GV} (e : run k a0 a1 a2 [] finN = some v) : NN fn.spec_l14Begin [a0, a1, a2] = some v := nω_of (by kernel_rfl) ((run_eq k a0 a1 a2 [] finN).trans e)
end S.spec_l14Begin
/-! spec_l1Max -/
namespace S.spec_l1Max
noncomputable def c0 : Code := bodyOf Tryd.f95
@[simp] def n0 {R : Type} (k : Nat) (G : KT1 R) (v0 v1 : GV) (h : Heap) : Option R := (kbin .gtr v0 v1).bind fun v7 => kcond v7 (G .ret v0 h) (G .ret v1 h)
theorem n0_eq {R : Type} (k : Nat) (G : KT1 R) (σ : GS) (h : Heap) : KC k 10 c0 σ h (fun x σ h => G x (σ 4) h) = n0 k G (σ 0) (σ 1) h := by kernel_rfl
def run {R : Type} (k : Nat) (a0 : GV) (a1 : GV) (h : Heap) (fin : GV → Heap → Option R) : Option R := n0 k (fun x v4 h => kend x (fin v4 h)) a0 a1 h
theorem run_eq {R : Type} (k : Nat) (a0 : GV) (a1 : GV) (h : Heap) (fin : GV → Heap → Option R) : kfun PP cfg NN HH k fn.spec_l1Max [a0, a1] h fin = run k a0 a1 h fin := (kfun_eq (nt := 10) (c := c0) (show PP.funcs[fn.spec_l1Max]? = some Tryd.f95 by kernel_rfl) (by kernel_rfl) (by kernel_rfl) (fun x σ h => by cases x <;> kernel_rfl)).trans (n0_eq k (fun x v4 h => kend x (fin v4 h)) _ h)
theorem gives {k : Nat} {a0 : GV} {a1 : GV} {v : GV} (e : run k a0 a1 [] finN = some v) : NN fn.spec_l1Max [a0, a1] = some v := nω_of (by kernel_rfl) ((run_eq k a0 a1 [] finN).trans e)
end S.spec_l1Max
/-! spec_l1In -/
namespace S.spec_l1In
noncomputable def c0 : Code := bodyOf Tryd.f96
noncomputable def c1 : Code := cR c0
noncomputable def c2 : Code := cR c1
@[simp] def n2 {R : Type} (k : Nat) (G : KT1 R) (v6 : GV) (h : Heap) : Option R := G .ret v6 h
theorem n2_eq {R : Type} (k : Nat) (G : KT1 R) (σ : GS) (h : Heap) : KC k 15 c2 σ h (fun x σ h => G x (σ 6) h) = n2 k G (σ 6) h := by kernel_rfl
noncomputable def c3 : Code := cL c1
noncomputable def o3 : Array Oper := cO c3
@[simp] def g3_2 {R : Type} (k : Nat) (G : KT1 R) (v10 v13 : GV) (h : Heap) : Option R := (kpick v10 v13 (.bool false)).bind fun v14 => G .nrm v14 h
theorem g3_2_eq {R : Type} (k : Nat) (G : KT1 R) (σ : GS) (h : Heap) : kgroups PP cfg NN HH 15 o3 [(none, [7, 8])] σ h (fun σ h => G .nrm (σ 6) h) = g3_2 k G (σ 10) (σ 13) h := by kernel_rfl
@[simp] def g3_1 {R : Type} (k : Nat) (G : KT1 R) (v0 v2 v10 : GV) (h : Heap) : Option R := bif tr true v10 then (kbin .leq v0 v2).bind fun v13 => g3_2 k G v10 v13 h else g3_2 k G v10 .un h
theorem g3_1_eq0 {R : Type} (k : Nat) (G : KT1 R) (σ : GS) (h : Heap) : kgroup1 PP cfg NN HH 15 o3 (some (3, true), [4, 5, 6]) σ h (fun σ h => g3_2 k G (σ 10) (σ 13) h) = g3_1 k G (σ 0) (σ 2) (σ 10) h := by kernel_rfl
theorem g3_1_eq {R : Type} (k : Nat) (G : KT1 R) (σ : GS) (h : Heap) : kgroups PP cfg NN HH 15 o3 [(some (3, true), [4, 5, 6]), (none, [7, 8])] σ h (fun σ h => G .nrm (σ 6) h) = g3_1 k G (σ 0) (σ 2) (σ 10) h := (kgroups_cons (fun σ h => g3_2_eq k G σ h)).trans (g3_1_eq0 k G σ h)
@[simp] def g3_0 {R : Type} (k : Nat) (G : KT1 R) (v0 v1 v2 : GV) (h : Heap) : Option R := (kbin .geq v0 v1).bind fun v9 => g3_1 k G v0 v2 v9 h
theorem g3_0_eq0 {R : Type} (k : Nat) (G : KT1 R) (σ : GS) (h : Heap) : kgroup1 PP cfg NN HH 15 o3 (none, [0, 1, 2, 3]) σ h (fun σ h => g3_1 k G (σ 0) (σ 2) (σ 10) h) = g3_0 k G (σ 0) (σ 1) (σ 2) h := by kernel_rfl
theorem g3_0_eq {R : Type} (k : Nat) (G : KT1 R) (σ : GS) (h : Heap) : kgroups PP cfg NN HH 15 o3 [(none, [0, 1, 2, 3]), (some (3, true), [4, 5, 6]), (none, [7, 8])] σ h (fun σ h => G .nrm (σ 6) h) = g3_0 k G (σ 0) (σ 1) (σ 2) h := (kgroups_cons (fun σ h => g3_1_eq k G σ h)).trans (g3_0_eq0 k G σ h)
@[simp] def n3 {R : Type} (k : Nat) (G : KT1 R) (v0 v1 v2 : GV) (h : Heap) : Option R := g3_0 k G v0 v1 v2 h
theorem n3_eq {R : Type} (k : Nat) (G : KT1 R) (σ : GS) (h : Heap) : KC k 15 c3 σ h (fun x σ h => G x (σ 6) h) = n3 k G (σ 0) (σ 1) (σ 2) h := (kregion_eq (id := 1) (draw := false) (ops := o3) (gs := [(none, [0, 1, 2, 3]), (some (3, true), [4, 5, 6]), (none, [7, 8])]) (by kernel_rfl) (by kernel_rfl) (by kernel_rfl)).trans (g3_0_eq k G σ h)
@[simp] def n1 {R : Type} (k : Nat) (G : KT1 R) (v0 v1 v2 : GV) (h : Heap) : Option R := n3 k (fun x v6 h => kx x (n2 k G v6 h) (G x v6 h)) v0 v1 v2 h
theorem n1_eq {R : Type} (k : Nat) (G : KT1 R) (σ : GS) (h : Heap) : KC k 15 c1 σ h (fun x σ h => G x (σ 6) h) = n1 k G (σ 0) (σ 1) (σ 2) h := (kseq (b := c2) rfl (fun σ h => n2_eq k G σ h)).trans (n3_eq k (fun x v6 h => kx x (n2 k G v6 h) (G x v6 h)) σ h)
noncomputable def c4 : Code := cL c0
@[simp] def n0 {R : Type} (k : Nat) (G : KT1 R) (v0 v1 v2 : GV) (h : Heap) : Option R := n1 k G v0 v1 v2 h
theorem n0_eq0 {R : Type} (k : Nat) (G : KT1 R) (σ : GS) (h : Heap) : KC k 15 c4 σ h (fun x σ h => kx x (n1 k G (σ 0) (σ 1) (σ 2) h) (G x (σ 6) h)) = n0 k G (σ 0) (σ 1) (σ 2) h := by kernel_rfl
theorem n0_eq {R : Type} (k : Nat) (G : KT1 R) (σ : GS) (h : Heap) : KC k 15 c0 σ h (fun x σ h => G x (σ 6) h) = n0 k G (σ 0) (σ 1) (σ 2) h := (kseq (b := c1) rfl (fun σ h => n1_eq k G σ h)).trans (n0_eq0 k G σ h)
def run {R : Type} (k : Nat) (a0 : GV) (a1 : GV) (a2 : GV) (h : Heap) (fin : GV → Heap → Option R) : Option R := n0 k (fun x v6 h => kend x (fin v6 h)) a0 a1 a2 h
theorem run_eq {R : Type} (k : Nat) (a0 : GV) (a1 : GV) (a2 : GV) (h : Heap) (fin : GV → Heap → Option R) : kfun PP cfg NN HH k fn.spec_l1In [a0, a1, a2] h fin = run k a0 a1 a2 h fin := (kfun_eq (nt := 15) (c := c0) (show PP.funcs[fn.spec_l1In]? = some Tryd.f96 by kernel_rfl) (by kernel_rfl) (by kernel_rfl) (fun x σ h => by cases x <;> kernel_rfl)).trans (n0_eq k (fun x v6 h => kend x (fin v6 h)) _ h)
theorem gives {k : Nat} {a0 : GV} {a1 : GV} {a2 : GV} {v : GV} (e : run k a0 a1 a2 [] finN = some v) : NN fn.spec_l1In [a0, a1, a2] = some v := nω_of (by kernel_rfl) ((run_eq k a0 a1 a2 [] finN).trans e)
end S.spec_l1In
/-! impl_in -/
namespace S.impl_in
noncomputable def c0 : Code := bodyOf Tryd.f104
noncomputable def c1 : Code := cR c0
noncomputable def c2 : Code := cR c1
@[simp] def n2 {R : Type} (k : Nat) (G : KT1 R) (v6 : GV) (h : Heap) : Option R := G .ret v6 h
theorem n2_eq {R : Type} (k : Nat) (G : KT1 R) (σ : GS) (h : Heap) : KC k 15 c2 σ h (fun x σ h => G x (σ 6) h) = n2 k G (σ 6) h := by kernel_rfl
noncomputable def c3 : Code := cL c1
noncomputable def o3 : Array Oper := cO c3
@[simp] def g3_2 {R : Type} (k : Nat) (G : KT1 R) (v10 v13 : GV) (h : Heap) : Option R := (kpick v10 v13 (.bool false)).bind fun v14 => G .nrm v14 h
theorem g3_2_eq {R : Type} (k : Nat) (G : KT1 R) (σ : GS) (h : Heap) : kgroups PP cfg NN HH 15 o3 [(none, [7, 8])] σ h (fun σ h => G .nrm (σ 6) h) = g3_2 k G (σ 10) (σ 13) h := by kernel_rfl
@[simp] def g3_1 {R : Type} (k : Nat) (G : KT1 R) (v0 v2 v10 : GV) (h : Heap) : Option R := bif tr true v10 then (kbin .leq v0 v2).bind fun v13 => g3_2 k G v10 v13 h else g3_2 k G v10 .un h
theorem g3_1_eq0 {R : Type} (k : Nat) (G : KT1 R) (σ : GS) (h : Heap) : kgroup1 PP cfg NN HH 15 o3 (some (3, true), [4, 5, 6]) σ h (fun σ h => g3_2 k G (σ 10) (σ 13) h) = g3_1 k G (σ 0) (σ 2) (σ 10) h := by kernel_rfl
theorem g3_1_eq {R : Type} (k : Nat) (G : KT1 R) (σ : GS) (h : Heap) : kgroups PP cfg NN HH 15 o3 [(some (3, true), [4, 5, 6]), (none, [7, 8])] σ h (fun σ h => G .nrm (σ 6) h) = g3_1 k G (σ 0) (σ 2) (σ 10) h := (kgroups_cons (fun σ h => g3_2_eq k G σ h)).trans (g3_1_eq0 k G σ h)
@[simp] def g3_0 {R : Type} (k : Nat) (G : KT1 R) (v0 v1 v2 : GV) (h : Heap) : Option R := (kbin .leq v1 v0).bind fun v9 => g3_1 k G v0 v2 v9 h
theorem g3_0_eq0 {R : Type} (k : Nat) (G : KT1 R) (σ : GS) (h : Heap) : kgroup1 PP cfg NN HH 15 o3 (none, [0, 1, 2, 3]) σ h (fun σ h => g3_1 k G (σ 0) (σ 2) (σ 10) h) = g3_0 k G (σ 0) (σ 1) (σ 2) h := by kernel_rfl
theorem g3_0_eq {R : Type} (k : Nat) (G : KT1 R) (σ : GS) (h : Heap) : kgroups PP cfg NN HH 15 o3 [(none, [0, 1, 2, 3]), (some (3, true), [4, 5, 6]), (none, [7, 8])] σ h (fun σ h => G .nrm (σ 6) h) = g3_0 k G (σ 0) (σ 1) (σ 2) h := (kgroups_cons (fun σ h => g3_1_eq k G σ h)).trans (g3_0_eq0 k G σ h)
@[simp] def n3 {R : Type} (k : Nat) (G : KT1 R) (v0 v1 v2 : GV) (h : Heap) : Option R := g3_0 k G v0 v1 v2 h
theorem n3_eq {R : Type} (k : Nat) (G : KT1 R) (σ : GS) (h : Heap) : KC k 15 c3 σ h (fun x σ h => G x (σ 6) h) = n3 k G (σ 0) (σ 1) (σ 2) h := (kregion_eq (id := 1) (draw := false) (ops := o3) (gs := [(none, [0, 1, 2, 3]), (some (3, true), [4, 5, 6]), (none, [7, 8])]) (by kernel_rfl) (by kernel_rfl) (by kernel_rfl)).trans (g3_0_eq k G σ h)
@[simp] def n1 {R : Type} (k : Nat) (G : KT1 R) (v0 v1 v2 : GV) (h : Heap) : Option R := n3 k (fun x v6 h => kx x (n2 k G v6 h) (G x v6 h)) v0 v1 v2 h
theorem n1_eq {R : Type} (k : Nat) (G : KT1 R) (σ : GS) (h : Heap) : KC k 15 c1 σ h (fun x σ h => G x (σ 6) h) = n1 k G (σ 0) (σ 1) (σ 2) h := (kseq (b := c2) rfl (fun σ h => n2_eq k G σ h)).trans (n3_eq k (fun x v6 h => kx x (n2 k G v6 h) (G x v6 h)) σ h)
noncomputable def c4 : Code := cL c0
@[simp] def n0 {R : Type} (k : Nat) (G : KT1 R) (v0 v1 v2 : GV) (h : Heap) : Option R := n1 k G v0 v1 v2 h
theorem n0_eq0 {R : Type} (k : Nat) (G : KT1 R) (σ : GS) (h : Heap) : KC k 15 c4 σ h (fun x σ h => kx x (n1 k G (σ 0) (σ 1) (σ 2) h) (G x (σ 6) h)) = n0 k G (σ 0) (σ 1) (σ 2) h := by kernel_rfl
theorem n0_eq {R : Type} (k : Nat) (G : KT1 R) (σ : GS) (h : Heap) : KC k 15 c0 σ h (fun x σ h => G x (σ 6) h) = n0 k G (σ 0) (σ 1) (σ 2) h := (kseq (b := c1) rfl (fun σ h => n1_eq k G σ h)).trans (n0_eq0 k G σ h)
def run {R : Type} (k : Nat) (a0 : GV) (a1 : GV) (a2 : GV) (h : Heap) (fin : GV → Heap → Option R) : Option R := n0 k (fun x v6 h => kend x (fin v6 h)) a0 a1 a2 h
theorem run_eq {R : Type} (k : Nat) (a0 : GV) (a1 : GV) (a2 : GV) (h : Heap) (fin : GV → Heap → Option R) : kfun PP cfg NN HH k fn.impl_in [a0, a1, a2] h fin = run k a0 a1 a2 h fin := (kfun_eq (nt := 15) (c := c0) (show PP.funcs[fn.impl_in]? = some Tryd.f104 by kernel_rfl) (by kernel_rfl) (by kernel_rfl) (fun x σ h => by cases x <;> kernel_rfl)).trans (n0_eq k (fun x v6 h => kend x (fin v6 h)) _ h)
theorem gives {k : Nat} {a0 : GV} {a1 : GV} {a2 : GV} {v : GV} (e : run k a0 a1 a2 [] finN = some v) : NN fn.impl_in [a0, a1, a2] = some v := nω_of (by kernel_rfl) ((run_eq k a0 a1 a2 [] finN).trans e)
end S.impl_in
/-! impl_isKeys -/
namespace S.impl_isKeys
noncomputable def c0 : Code := bodyOf Tryd.f105
@[simp] def n0 {R : Type} (k : Nat) (G : KT1 R) (v0 : GV) (h : Heap) : Option R := (klenS v0).bind fun v4 => (kN NN fn.impl_in [v4, (.int .i64 1), (.int .i64 20)] h).bind fun v5 => G .ret v5 h
theorem n0_eq {R : Type} (k : Nat) (G : KT1 R) (σ : GS) (h : Heap) : KC k 6 c0 σ h (fun x σ h => G x (σ 2) h) = n0 k G (σ 0) h := by kernel_rfl
def run {R : Type} (k : Nat) (a0 : GV) (h : Heap) (fin : GV → Heap → Option R) : Option R := n0 k (fun x v2 h => kend x (fin v2 h)) a0 h
theorem run_eq {R : Type} (k : Nat) (a0 : GV) (h : Heap) (fin : GV → Heap → Option R) : kfun PP cfg NN HH k fn.impl_isKeys [a0] h fin = run k a0 h fin := (kfun_eq (nt := 6) (c := c0) (show PP.funcs[fn.impl_isKeys]? = some Tryd.f105 by kernel_rfl) (by kernel_rfl) (by kernel_rfl) (fun x σ h => by cases x <;> kernel_rfl)).trans (n0_eq k (fun x v2 h => kend x (fin v2 h)) _ h)
theorem gives {k : Nat} {a0 : GV} {v : GV} (e : run k a0 [] finN = some v) : NN fn.impl_isKeys [a0] = some v := nω_of (by kernel_rfl) ((run_eq k a0 [] finN).trans e)
end S.impl_isKeys
/-! spec_l18Hex -/
namespace S.spec_l18Hex
noncomputable def c0 : Code := bodyOf Tryd.f140
noncomputable def c1 : Code := cR c0
noncomputable def c2 : Code := cR c1
noncomputable def c3 : Code := cR c2
@[simp] def n3 {R : Type} (k : Nat) (G : KT1 R) (v3 : GV) (h : Heap) : Option R := (kbstr h v3).bind fun v26 => G .ret v26 h
theorem n3_eq {R : Type} (k : Nat) (G : KT1 R) (σ : GS) (h : Heap) : KC k 27 c3 σ h (fun x σ h => G x (σ 2) h) = n3 k G (σ 3) h := by kernel_rfl
noncomputable def c4 : Code := cL c2
noncomputable def c5 : Code := cR c4
noncomputable def c6 : Code := cL c5
noncomputable def c7 : Code := cL c6
noncomputable def c8 : Code := cR c7
noncomputable def c9 : Code := cR c8
@[simp] def n9 {R : Type} (k : Nat) (G : KT4 R) (v0 v2 v3 v4 : GV) (h : Heap) : Option R := (kbin .add v4 (.int .i64 1)).bind fun v11 => G .nrm v0 v2 v3 v11 h
theorem n9_eq {R : Type} (k : Nat) (G : KT4 R) (σ : GS) (h : Heap) : KC k 27 c9 σ h (fun x σ h => G x (σ 0) (σ 2) (σ 3) (σ 4) h) = n9 k G (σ 0) (σ 2) (σ 3) (σ 4) h := by kernel_rfl
noncomputable def c10 : Code := cL c8
noncomputable def c11 : Code := cL c10
@[simp] def n11 {R : Type} (k : Nat) (G : KT4 R) (v0 v2 v3 v4 : GV) (h : Heap) : Option R := (kbyte v0 v4).bind fun v15 => (kbin .quo v15 (.int .u8 16)).bind fun v16 => (kbyte (.str { data := #[48, 49, 50, 51, 52, 53, 54, 55, 56, 57, 97, 98, 99, 100, 101, 102] }) v16).bind fun v17 => (kbyte v0 v4).bind fun v20 => (kbin .rem v20 (.int .u8 16)).bind fun v21 => (kbyte (.str { data := #[48, 49, 50, 51, 52, 53, 54, 55, 56, 57, 97, 98, 99, 100, 101, 102] }) v21).bind fun v22 => (gfill (fun i => some (i * 1, 1)) (zeros [(.int .u8 0)] 2) [(0, v17), (1, v22)]).bind fun c => kbs 2 1 c h fun v23 h => (kapp [(.int .u8 0)] 1 1 v3 v23 h).bind fun r => kr r fun v24 h => G .nrm v0 v2 v24 v4 h
theorem n11_eq {R : Type} (k : Nat) (G : KT4 R) (σ : GS) (h : Heap) : KC k 27 c11 σ h (fun x σ h => G x (σ 0) (σ 2) (σ 3) (σ 4) h) = n11 k G (σ 0) (σ 2) (σ 3) (σ 4) h := by kernel_rfl
@[simp] def n10 {R : Type} (k : Nat) (G : KT4 R) (v0 v2 v3 v4 : GV) (h : Heap) : Option R := n11 k (fun x v0 v2 v3 v4 h => kb 1 x fun x => G x v0 v2 v3 v4 h) v0 v2 v3 v4 h
theorem n10_eq {R : Type} (k : Nat) (G : KT4 R) (σ : GS) (h : Heap) : KC k 27 c10 σ h (fun x σ h => G x (σ 0) (σ 2) (σ 3) (σ 4) h) = n10 k G (σ 0) (σ 2) (σ 3) (σ 4) h := (kblock_eq (a := c11) rfl).trans (n11_eq k (fun x v0 v2 v3 v4 h => kb 1 x fun x => G x v0 v2 v3 v4 h) σ h)
@[simp] def n8 {R : Type} (k : Nat) (G : KT4 R) (v0 v2 v3 v4 : GV) (h : Heap) : Option R := n10 k (fun x v0 v2 v3 v4 h => kx x (n9 k G v0 v2 v3 v4 h) (G x v0 v2 v3 v4 h)) v0 v2 v3 v4 h
theorem n8_eq {R : Type} (k : Nat) (G : KT4 R) (σ : GS) (h : Heap) : KC k 27 c8 σ h (fun x σ h => G x (σ 0) (σ 2) (σ 3) (σ 4) h) = n8 k G (σ 0) (σ 2) (σ 3) (σ 4) h := (kseq (b := c9) rfl (fun σ h => n9_eq k G σ h)).trans (n10_eq k (fun x v0 v2 v3 v4 h => kx x (n9 k G v0 v2 v3 v4 h) (G x v0 v2 v3 v4 h)) σ h)
noncomputable def c12 : Code := cL c7
@[simp] def n7 {R : Type} (k : Nat) (G : KT4 R) (v0 v2 v3 v4 : GV) (h : Heap) : Option R := (klenS v0).bind fun v8 => (kbin .lss v4 v8).bind fun v9 => kcond v9 (n8 k G v0 v2 v3 v4 h) (G (.ext 0) v0 v2 v3 v4 h)
theorem n7_eq0 {R : Type} (k : Nat) (G : KT4 R) (σ : GS) (h : Heap) : KC k 27 c12 σ h (fun x σ h => kx x (n8 k G (σ 0) (σ 2) (σ 3) (σ 4) h) (G x (σ 0) (σ 2) (σ 3) (σ 4) h)) = n7 k G (σ 0) (σ 2) (σ 3) (σ 4) h := by kernel_rfl
theorem n7_eq {R : Type} (k : Nat) (G : KT4 R) (σ : GS) (h : Heap) : KC k 27 c7 σ h (fun x σ h => G x (σ 0) (σ 2) (σ 3) (σ 4) h) = n7 k G (σ 0) (σ 2) (σ 3) (σ 4) h := (kseq (b := c8) rfl (fun σ h => n8_eq k G σ h)).trans (n7_eq0 k G σ h)
def l6 {R : Type} (k : Nat) (G : KT2 R) : Nat → GV → GV → GV → GV → Heap → Option R
  | 0, _, _, _, _, _ => none
  | r + 1, v0, v2, v3, v4, h => n7 k (fun x v0 v2 v3 v4 h => kx x (l6 k G r v0 v2 v3 v4 h) (G x v2 v3 h)) v0 v2 v3 v4 h
theorem l6_eq {R : Type} (k : Nat) (G : KT2 R) : ∀ (r : Nat) (σ : GS) (h : Heap), kloop (fun σ h K => KC k 27 c7 σ h K) r σ h (fun x σ h => G x (σ 2) (σ 3) h) = l6 k G r (σ 0) (σ 2) (σ 3) (σ 4) h
  | 0, _, _ => rfl
  | r + 1, σ, h => (kloop_eq (fun σ h => l6_eq k G r σ h)).trans (n7_eq k (fun x v0 v2 v3 v4 h => kx x (l6 k G r v0 v2 v3 v4 h) (G x v2 v3 h)) σ h)
@[simp] def n6 {R : Type} (k : Nat) (G : KT2 R) (v0 v2 v3 v4 : GV) (h : Heap) : Option R := l6 k G k v0 v2 v3 v4 h
theorem n6_eq {R : Type} (k : Nat) (G : KT2 R) (σ : GS) (h : Heap) : KC k 27 c6 σ h (fun x σ h => G x (σ 2) (σ 3) h) = n6 k G (σ 0) (σ 2) (σ 3) (σ 4) h := (kloopc_eq (a := c7) rfl).trans (l6_eq k G k σ h)
@[simp] def n5 {R : Type} (k : Nat) (G : KT2 R) (v0 v2 v3 v4 : GV) (h : Heap) : Option R := n6 k (fun x v2 v3 h => kb 0 x fun x => G x v2 v3 h) v0 v2 v3 v4 h
theorem n5_eq {R : Type} (k : Nat) (G : KT2 R) (σ : GS) (h : Heap) : KC k 27 c5 σ h (fun x σ h => G x (σ 2) (σ 3) h) = n5 k G (σ 0) (σ 2) (σ 3) (σ 4) h := (kblock_eq (a := c6) rfl).trans (n6_eq k (fun x v2 v3 h => kb 0 x fun x => G x v2 v3 h) σ h)
noncomputable def c13 : Code := cL c4
@[simp] def n4 {R : Type} (k : Nat) (G : KT2 R) (v0 v2 v3 : GV) (h : Heap) : Option R := n5 k G v0 v2 v3 (.int .i64 0) h
theorem n4_eq0 {R : Type} (k : Nat) (G : KT2 R) (σ : GS) (h : Heap) : KC k 27 c13 σ h (fun x σ h => kx x (n5 k G (σ 0) (σ 2) (σ 3) (σ 4) h) (G x (σ 2) (σ 3) h)) = n4 k G (σ 0) (σ 2) (σ 3) h := by kernel_rfl
theorem n4_eq {R : Type} (k : Nat) (G : KT2 R) (σ : GS) (h : Heap) : KC k 27 c4 σ h (fun x σ h => G x (σ 2) (σ 3) h) = n4 k G (σ 0) (σ 2) (σ 3) h := (kseq (b := c5) rfl (fun σ h => n5_eq k G σ h)).trans (n4_eq0 k G σ h)
@[simp] def n2 {R : Type} (k : Nat) (G : KT1 R) (v0 v2 v3 : GV) (h : Heap) : Option R := n4 k (fun x v2 v3 h => kx x (n3 k G v3 h) (G x v2 h)) v0 v2 v3 h
theorem n2_eq {R : Type} (k : Nat) (G : KT1 R) (σ : GS) (h : Heap) : KC k 27 c2 σ h (fun x σ h => G x (σ 2) h) = n2 k G (σ 0) (σ 2) (σ 3) h := (kseq (b := c3) rfl (fun σ h => n3_eq k G σ h)).trans (n4_eq k (fun x v2 v3 h => kx x (n3 k G v3 h) (G x v2 h)) σ h)
noncomputable def c14 : Code := cL c1
@[simp] def n1 {R : Type} (k : Nat) (G : KT1 R) (v0 v2 : GV) (h : Heap) : Option R := n2 k G v0 v2 .emp h
theorem n1_eq0 {R : Type} (k : Nat) (G : KT1 R) (σ : GS) (h : Heap) : KC k 27 c14 σ h (fun x σ h => kx x (n2 k G (σ 0) (σ 2) (σ 3) h) (G x (σ 2) h)) = n1 k G (σ 0) (σ 2) h := by kernel_rfl
theorem n1_eq {R : Type} (k : Nat) (G : KT1 R) (σ : GS) (h : Heap) : KC k 27 c1 σ h (fun x σ h => G x (σ 2) h) = n1 k G (σ 0) (σ 2) h := (kseq (b := c2) rfl (fun σ h => n2_eq k G σ h)).trans (n1_eq0 k G σ h)
noncomputable def c15 : Code := cL c0
@[simp] def n0 {R : Type} (k : Nat) (G : KT1 R) (v0 : GV) (h : Heap) : Option R := n1 k G v0 (.str { data := #[] }) h
theorem n0_eq0 {R : Type} (k : Nat) (G : KT1 R) (σ : GS) (h : Heap) : KC k 27 c15 σ h (fun x σ h => kx x (n1 k G (σ 0) (σ 2) h) (G x (σ 2) h)) = n0 k G (σ 0) h := by kernel_rfl
theorem n0_eq {R : Type} (k : Nat) (G : KT1 R) (σ : GS) (h : Heap) : KC k 27 c0 σ h (fun x σ h => G x (σ 2) h) = n0 k G (σ 0) h := (kseq (b := c1) rfl (fun σ h => n1_eq k G σ h)).trans (n0_eq0 k G σ h)
def run {R : Type} (k : Nat) (a0 : GV) (h : Heap) (fin : GV → Heap → Option R) : Option R := n0 k (fun x v2 h => kend x (fin v2 h)) a0 h
theorem run_eq {R : Type} (k : Nat) (a0 : GV) (h : Heap) (fin : GV → Heap → Option R) : kfun PP cfg NN HH k fn.spec_l18Hex [a0] h fin = run k a0 h fin := (kfun_eq (nt := 27) (c := c0) (show PP.funcs[fn.spec_l18Hex]? = some Tryd.f140 by kernel_rfl) (by kernel_rfl) (by kernel_rfl) (fun x σ h => by cases x <;> kernel_rfl)).trans (n0_eq k (fun x v2 h => kend x (fin v2 h)) _ h)
theorem gives {k : Nat} {a0 : GV} {v : GV} (e : run k a0 [] finN = some v) : NN fn.spec_l18Hex [a0] = some v := nω_of (by kernel_rfl) ((run_eq k a0 [] finN).trans e)
end S.spec_l18Hex
/-! laws_FnExactRecord -/
namespace S.laws_FnExactRecord
noncomputable def c0 : Code := bodyOf Tryd.f3
@[simp] def n0 {R : Type} (k : Nat) (G : KT1 R) (v0 : GV) (h : Heap) : Option R := (klenS v0).bind fun v6 => (kbin .gtr v6 (.int .i64 1048576)).bind fun v7 => kcond v7 (G .ret (.bool true) h) ((kN NN fn.spec_Record [v0] h).bind fun v9 => (kN NN fn.impl_Record [v0] h).bind fun v11 => (kbin .neq v11 v9).bind fun v14 => kcond v14 (G .ret (.bool false) h) (G .ret (.bool true) h))
theorem n0_eq {R : Type} (k : Nat) (G : KT1 R) (σ : GS) (h : Heap) : KC k 15 c0 σ h (fun x σ h => G x (σ 2) h) = n0 k G (σ 0) h := by kernel_rfl
def run {R : Type} (k : Nat) (a0 : GV) (h : Heap) (fin : GV → Heap → Option R) : Option R := n0 k (fun x v2 h => kend x (fin v2 h)) a0 h
theorem run_eq {R : Type} (k : Nat) (a0 : GV) (h : Heap) (fin : GV → Heap → Option R) : kfun PP cfg NN HH k fn.laws_FnExactRecord [a0] h fin = run k a0 h fin := (kfun_eq (nt := 15) (c := c0) (show PP.funcs[fn.laws_FnExactRecord]? = some Tryd.f3 by kernel_rfl) (by kernel_rfl) (by kernel_rfl) (fun x σ h => by cases x <;> kernel_rfl)).trans (n0_eq k (fun x v2 h => kend x (fin v2 h)) _ h)
theorem gives {k : Nat} {a0 : GV} {v : GV} (e : run k a0 [] finN = some v) : NN fn.laws_FnExactRecord [a0] = some v := nω_of (by kernel_rfl) ((run_eq k a0 [] finN).trans e)
end S.laws_FnExactRecord
/-! laws_FnExactSealed -/
namespace S.laws_FnExactSealed
noncomputable def c0 : Code := bodyOf Tryd.f4
@[simp] def n0 {R : Type} (k : Nat) (G : KT1 R) (v0 v1 v2 : GV) (h : Heap) : Option R := (klenS v0).bind fun v10 => (kbin .gtr v10 (.int .i64 1048576)).bind fun v11 => kcond v11 (G .ret (.bool true) h) ((klenS v2).bind fun v13 => (kbin .gtr v13 (.int .i64 1048576)).bind fun v14 => kcond v14 (G .ret (.bool true) h) ((kN NN fn.spec_Sealed [v0, v1, v2] h).bind fun v18 => (kN NN fn.impl_Sealed [v0, v1, v2] h).bind fun v22 => (kbin .neq v22 v18).bind fun v25 => kcond v25 (G .ret (.bool false) h) (G .ret (.bool true) h)))
theorem n0_eq {R : Type} (k : Nat) (G : KT1 R) (σ : GS) (h : Heap) : KC k 26 c0 σ h (fun x σ h => G x (σ 6) h) = n0 k G (σ 0) (σ 1) (σ 2) h := by kernel_rfl
def run {R : Type} (k : Nat) (a0 : GV) (a1 : GV) (a2 : GV) (h : Heap) (fin : GV → Heap → Option R) : Option R := n0 k (fun x v6 h => kend x (fin v6 h)) a0 a1 a2 h
theorem run_eq {R : Type} (k : Nat) (a0 : GV) (a1 : GV) (a2 : GV) (h : Heap) (fin : GV → Heap → Option R) : kfun PP cfg NN HH k fn.laws_FnExactSealed [a0, a1, a2] h fin = run k a0 a1 a2 h fin := (kfun_eq (nt := 26) (c := c0) (show PP.funcs[fn.laws_FnExactSealed]? = some Tryd.f4 by kernel_rfl) (by kernel_rfl) (by kernel_rfl) (fun x σ h => by cases x <;> kernel_rfl)).trans (n0_eq k (fun x v6 h => kend x (fin v6 h)) _ h)
theorem gives {k : Nat} {a0 : GV} {a1 : GV} {a2 : GV} {v : GV} (e : run k a0 a1 a2 [] finN = some v) : NN fn.laws_FnExactSealed [a0, a1, a2] = some v := nω_of (by kernel_rfl) ((run_eq k a0 a1 a2 [] finN).trans e)
end S.laws_FnExactSealed
/-! laws_FnExactShowEntry -/
namespace S.laws_FnExactShowEntry
noncomputable def c0 : Code := bodyOf Tryd.f5
@[simp] def n0 {R : Type} (k : Nat) (G : KT1 R) (v0 : GV) (h : Heap) : Option R := kbox v0 h fun v1 h => (kloadA 4 h v1).bind fun v6 => (kN NN fn.laws_szEntry [v6, (.int .i64 1048576)] h).bind fun v8 => (kbin .lss v8 (.int .i64 0)).bind fun v10 => kcond v10 (G .ret (.bool true) h) ((kloadA 4 h v1).bind fun v11 => (kN NN fn.laws_toEntry [v11] h).bind fun v12 => (kN NN fn.spec_ShowEntry [v12] h).bind fun v13 => (kloadA 4 h v1).bind fun v14 => (kN NN fn.laws_toEntry [v14] h).bind fun v15 => (kN NN fn.impl_ShowEntry [v15] h).bind fun v16 => (kbin .neq v16 v13).bind fun v19 => kcond v19 (G .ret (.bool false) h) (G .ret (.bool true) h))
theorem n0_eq {R : Type} (k : Nat) (G : KT1 R) (σ : GS) (h : Heap) : KC k 20 c0 σ h (fun x σ h => G x (σ 2) h) = n0 k G (σ 0) h := by kernel_rfl
def run {R : Type} (k : Nat) (a0 : GV) (h : Heap) (fin : GV → Heap → Option R) : Option R := n0 k (fun x v2 h => kend x (fin v2 h)) a0 h
theorem run_eq {R : Type} (k : Nat) (a0 : GV) (h : Heap) (fin : GV → Heap → Option R) : kfun PP cfg NN HH k fn.laws_FnExactShowEntry [a0] h fin = run k a0 h fin := (kfun_eq (nt := 20) (c := c0) (show PP.funcs[fn.laws_FnExactShowEntry]? = some Tryd.f5 by kernel_rfl) (by kernel_rfl) (by kernel_rfl) (fun x σ h => by cases x <;> kernel_rfl)).trans (n0_eq k (fun x v2 h => kend x (fin v2 h)) _ h)
theorem gives {k : Nat} {a0 : GV} {v : GV} (e : run k a0 [] finN = some v) : NN fn.laws_FnExactShowEntry [a0] = some v := nω_of (by kernel_rfl) ((run_eq k a0 [] finN).trans e)
end S.laws_FnExactShowEntry
end
end Go.Proofs.YtklhdbkaejbajaaDoor.G
