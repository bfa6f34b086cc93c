/- What these functions do, told for open values, out of the machine with continuations. Printed by a program of this session. -/
import Derived.Test.YtklhdbkaejbajaaDoorSN
import Derived.KernelRfl
namespace Go.Proofs.YtklhdbkaejbajaaDoor.G
open Go.RowKit
set_option linter.unusedVariables false
set_option maxRecDepth 100000
noncomputable section
variable {R : Type} (k : Nat)
/-! laws_FnExactShowFrame -/
namespace S.laws_FnExactShowFrame
noncomputable def c0 : Code := bodyOf Tryd.f12
@[simp] def n0 {R : Type} (k : Nat) (G : KT1 R) (v0 : GV) (h : Heap) : Option R := kbox v0 h fun v1 h => (kloadA 6 h v1).bind fun v7 => (kN NN fn.laws_szFrame [v7, (.int .i64 1048576)] h).bind fun v9 => (kbin .lss v9 (.int .i64 0)).bind fun v11 => kcond v11 (G .ret (.bool true) h) ((kloadA 6 h v1).bind fun v12 => (kN NN fn.laws_toFrame [v12] h).bind fun v13 => (kN NN fn.spec_ShowFrame [v13] h).bind fun v14 => (kloadA 6 h v1).bind fun v15 => (kN NN fn.laws_toFrame [v15] h).bind fun v16 => kalloc [(.int .i64 0), (.int .i64 0), (.int .i64 0), (.int .i64 0), (.int .i64 0), .nils] h fun v5 h => (kstore 6 h v5 v16).bind fun h => (kloadA 6 h v5).bind fun v17 => (kN NN fn.impl_ShowFrame [v17] h).bind fun v18 => (kbin .neq v18 v14).bind fun v21 => kcond v21 (G .ret (.bool false) h) ((kloadA 6 h v5).bind fun v22 => (kloadA 6 h v1).bind fun v23 => (kN NN fn.laws_toFrame [v23] h).bind fun v24 => (kN NN fn.laws_eqFrame [v22, v24] h).bind fun v25 => (kun .not v25).bind fun v26 => kcond v26 (G .ret (.bool false) h) (G .ret (.bool true) h)))
theorem n0_eq (G : KT1 R) (σ : GS) (h : Heap) : KC k 27 c0 σ h (fun x σ h => G x (σ 2) h) = n0 k G (σ 0) h := by kernel_rfl
def run {R : Type} (k : Nat) (a0 : GV) (h : Heap) (fin : GV → Heap → Option R) : Option R := n0 k (fun x v2 h => kend x (fin v2 h)) a0 h
theorem run_eq {R : Type} (k : Nat) (a0 : GV) (h : Heap) (fin : GV → Heap → Option R) : kfun PP cfg NN HH k fn.laws_FnExactShowFrame [a0] h fin = run k a0 h fin := (kfun_eq (nt := 27) (c := c0) (show PP.funcs[fn.laws_FnExactShowFrame]? = some Tryd.f12 by kernel_rfl) (by kernel_rfl) (by kernel_rfl) (fun x σ h => by cases x <;> kernel_rfl)).trans (n0_eq k (fun x v2 h => kend x (fin v2 h)) _ h)
theorem gives {k : Nat} {a0 : GV} {v : GV} (e : run k a0 [] finN = some v) : NN fn.laws_FnExactShowFrame [a0] = some v := nω_of (by kernel_rfl) ((run_eq k a0 [] finN).trans e)
end S.laws_FnExactShowFrame
/-! laws_szFrame -/
namespace S.laws_szFrame
noncomputable def c0 : Code := bodyOf Tryd.f57
@[simp] def n0 {R : Type} (k : Nat) (G : KT1 R) (v0 v1 : GV) (h : Heap) : Option R := kbox v0 h fun v2 h => (kfa 3 v2).bind fun v5 => (kloadA 3 h v5).bind fun v6 => (kN NN fn.laws_szPatch [v6, v1] h).bind fun v8 => (kbin .lss v8 (.int .i64 0)).bind fun v10 => kcond v10 (G .ret (.int .i64 (-1)) h) (G .ret v8 h)
theorem n0_eq (G : KT1 R) (σ : GS) (h : Heap) : KC k 12 c0 σ h (fun x σ h => G x (σ 4) h) = n0 k G (σ 0) (σ 1) h := by kernel_rfl
def run {R : Type} (k : Nat) (a0 : GV) (a1 : GV) (h : Heap) (fin : GV → Heap → Option R) : Option R := n0 k (fun x v4 h => kend x (fin v4 h)) a0 a1 h
theorem run_eq {R : Type} (k : Nat) (a0 : GV) (a1 : GV) (h : Heap) (fin : GV → Heap → Option R) : kfun PP cfg NN HH k fn.laws_szFrame [a0, a1] h fin = run k a0 a1 h fin := (kfun_eq (nt := 12) (c := c0) (show PP.funcs[fn.laws_szFrame]? = some Tryd.f57 by kernel_rfl) (by kernel_rfl) (by kernel_rfl) (fun x σ h => by cases x <;> kernel_rfl)).trans (n0_eq k (fun x v4 h => kend x (fin v4 h)) _ h)
theorem gives {k : Nat} {a0 : GV} {a1 : GV} {v : GV} (e : run k a0 a1 [] finN = some v) : NN fn.laws_szFrame [a0, a1] = some v := nω_of (by kernel_rfl) ((run_eq k a0 a1 [] finN).trans e)
end S.laws_szFrame
/-! laws_szPatch -/
namespace S.laws_szPatch
noncomputable def c0 : Code := bodyOf Tryd.f107
@[simp] def n0 {R : Type} (k : Nat) (G : KT1 R) (v0 v1 : GV) (h : Heap) : Option R := kbox v0 h fun v2 h => (kfa 2 v2).bind fun v5 => (kload1 h v5).bind fun v6 => (kN NN fn.laws_szChangeS [v6, v1] h).bind fun v8 => (kbin .lss v8 (.int .i64 0)).bind fun v10 => kcond v10 (G .ret (.int .i64 (-1)) h) (G .ret v8 h)
theorem n0_eq (G : KT1 R) (σ : GS) (h : Heap) : KC k 12 c0 σ h (fun x σ h => G x (σ 4) h) = n0 k G (σ 0) (σ 1) h := by kernel_rfl
def run {R : Type} (k : Nat) (a0 : GV) (a1 : GV) (h : Heap) (fin : GV → Heap → Option R) : Option R := n0 k (fun x v4 h => kend x (fin v4 h)) a0 a1 h
theorem run_eq {R : Type} (k : Nat) (a0 : GV) (a1 : GV) (h : Heap) (fin : GV → Heap → Option R) : kfun PP cfg NN HH k fn.laws_szPatch [a0, a1] h fin = run k a0 a1 h fin := (kfun_eq (nt := 12) (c := c0) (show PP.funcs[fn.laws_szPatch]? = some Tryd.f107 by kernel_rfl) (by kernel_rfl) (by kernel_rfl) (fun x σ h => by cases x <;> kernel_rfl)).trans (n0_eq k (fun x v4 h => kend x (fin v4 h)) _ h)
theorem gives {k : Nat} {a0 : GV} {a1 : GV} {v : GV} (e : run k a0 a1 [] finN = some v) : NN fn.laws_szPatch [a0, a1] = some v := nω_of (by kernel_rfl) ((run_eq k a0 a1 [] finN).trans e)
end S.laws_szPatch
/-! laws_szChangeS -/
namespace S.laws_szChangeS
noncomputable def c0 : Code := bodyOf Tryd.f156
noncomputable def c1 : Code := cR c0
noncomputable def c2 : Code := cR c1
noncomputable def c3 : Code := cR c2
noncomputable def c4 : Code := cR c3
@[simp] def n4 {R : Type} (k : Nat) (G : KT1 R) (v1 : GV) (h : Heap) : Option R := G .ret v1 h
theorem n4_eq (G : KT1 R) (σ : GS) (h : Heap) : KC k 27 c4 σ h (fun x σ h => G x (σ 4) h) = n4 k G (σ 1) h := by kernel_rfl
noncomputable def c5 : Code := cL c3
noncomputable def c6 : Code := cR c5
noncomputable def c7 : Code := cL c6
noncomputable def c8 : Code := cL c7
noncomputable def c9 : Code := cR c8
noncomputable def c10 : Code := cR c9
@[simp] def n10 {R : Type} (k : Nat) (G : KT4 R) (v0 v1 v4 v5 : GV) (h : Heap) : Option R := (kbin .add v5 (.int .i64 1)).bind fun v17 => G .nrm v0 v1 v4 v17 h
theorem n10_eq (G : KT4 R) (σ : GS) (h : Heap) : KC k 27 c10 σ h (fun x σ h => G x (σ 0) (σ 1) (σ 4) (σ 5) h) = n10 k G (σ 0) (σ 1) (σ 4) (σ 5) h := by kernel_rfl
noncomputable def c11 : Code := cL c9
noncomputable def c12 : Code := cL c11
@[simp] def n12 {R : Type} (k : Nat) (G : KT4 R) (v0 v1 v4 v5 : GV) (h : Heap) : Option R := (kia 3 v0 v5).bind fun v20 => (kloadA 3 h v20).bind fun v21 => (kN NN fn.laws_szChange [v21, v1] h).bind fun v23 => (kbin .lss v23 (.int .i64 0)).bind fun v25 => kcond v25 (G .ret v0 v23 (.int .i64 (-1)) v5 h) (G .nrm v0 v23 v4 v5 h)
theorem n12_eq (G : KT4 R) (σ : GS) (h : Heap) : KC k 27 c12 σ h (fun x σ h => G x (σ 0) (σ 1) (σ 4) (σ 5) h) = n12 k G (σ 0) (σ 1) (σ 4) (σ 5) h := by kernel_rfl
@[simp] def n11 (G : KT4 R) (v0 v1 v4 v5 : GV) (h : Heap) : Option R := n12 k (fun x v0 v1 v4 v5 h => kb 1 x fun x => G x v0 v1 v4 v5 h) v0 v1 v4 v5 h
theorem n11_eq (G : KT4 R) (σ : GS) (h : Heap) : KC k 27 c11 σ h (fun x σ h => G x (σ 0) (σ 1) (σ 4) (σ 5) h) = n11 k G (σ 0) (σ 1) (σ 4) (σ 5) h := (kblock_eq (a := c12) rfl).trans (n12_eq k (fun x v0 v1 v4 v5 h => kb 1 x fun x => G x v0 v1 v4 v5 h) σ h)
@[simp] def n9 (G : KT4 R) (v0 v1 v4 v5 : GV) (h : Heap) : Option R := n11 k (fun x v0 v1 v4 v5 h => kx x (n10 k G v0 v1 v4 v5 h) (G x v0 v1 v4 v5 h)) v0 v1 v4 v5 h
theorem n9_eq (G : KT4 R) (σ : GS) (h : Heap) : KC k 27 c9 σ h (fun x σ h => G x (σ 0) (σ 1) (σ 4) (σ 5) h) = n9 k G (σ 0) (σ 1) (σ 4) (σ 5) h := (kseq (b := c10) rfl (fun σ h => n10_eq k G σ h)).trans (n11_eq k (fun x v0 v1 v4 v5 h => kx x (n10 k G v0 v1 v4 v5 h) (G x v0 v1 v4 v5 h)) σ h)
noncomputable def c13 : Code := cL c8
@[simp] def n8 (G : KT4 R) (v0 v1 v4 v5 : GV) (h : Heap) : Option R := (klen v0).bind fun v14 => (kbin .lss v5 v14).bind fun v15 => kcond v15 (n9 k G v0 v1 v4 v5 h) (G (.ext 0) v0 v1 v4 v5 h)
theorem n8_eq (G : KT4 R) (σ : GS) (h : Heap) : KC k 27 c8 σ h (fun x σ h => G x (σ 0) (σ 1) (σ 4) (σ 5) h) = n8 k G (σ 0) (σ 1) (σ 4) (σ 5) h := (kseq (a := c13) (b := c9) rfl (fun σ h => n9_eq k G σ h)).trans (by kernel_rfl)
def l7 {R : Type} (k : Nat) (G : KT2 R) : Nat → GV → GV → GV → GV → Heap → Option R
  | 0, _, _, _, _, _ => none
  | r + 1, v0, v1, v4, v5, h => n8 k (fun x v0 v1 v4 v5 h => kx x (l7 k G r v0 v1 v4 v5 h) (G x v1 v4 h)) v0 v1 v4 v5 h
theorem l7_eq {R : Type} (k : Nat) (G : KT2 R) : ∀ (r : Nat) (σ : GS) (h : Heap), kloop (fun σ h K => KC k 27 c8 σ h K) r σ h (fun x σ h => G x (σ 1) (σ 4) h) = l7 k G r (σ 0) (σ 1) (σ 4) (σ 5) h
  | 0, _, _ => rfl
  | r + 1, σ, h => (kloop_eq (fun σ h => l7_eq k G r σ h)).trans (n8_eq k (fun x v0 v1 v4 v5 h => kx x (l7 k G r v0 v1 v4 v5 h) (G x v1 v4 h)) σ h)
@[simp] def n7 (G : KT2 R) (v0 v1 v4 v5 : GV) (h : Heap) : Option R := l7 k G k v0 v1 v4 v5 h
theorem n7_eq (G : KT2 R) (σ : GS) (h : Heap) : KC k 27 c7 σ h (fun x σ h => G x (σ 1) (σ 4) h) = n7 k G (σ 0) (σ 1) (σ 4) (σ 5) h := (kloopc_eq (a := c8) rfl).trans (l7_eq k G k σ h)
@[simp] def n6 (G : KT2 R) (v0 v1 v4 v5 : GV) (h : Heap) : Option R := n7 k (fun x v1 v4 h => kb 0 x fun x => G x v1 v4 h) v0 v1 v4 v5 h
theorem n6_eq (G : KT2 R) (σ : GS) (h : Heap) : KC k 27 c6 σ h (fun x σ h => G x (σ 1) (σ 4) h) = n6 k G (σ 0) (σ 1) (σ 4) (σ 5) h := (kblock_eq (a := c7) rfl).trans (n7_eq k (fun x v1 v4 h => kb 0 x fun x => G x v1 v4 h) σ h)
noncomputable def c14 : Code := cL c5
@[simp] def n5 (G : KT2 R) (v0 v1 v4 : GV) (h : Heap) : Option R := n6 k G v0 v1 v4 (.int .i64 0) h
theorem n5_eq (G : KT2 R) (σ : GS) (h : Heap) : KC k 27 c5 σ h (fun x σ h => G x (σ 1) (σ 4) h) = n5 k G (σ 0) (σ 1) (σ 4) h := (kseq (a := c14) (b := c6) rfl (fun σ h => n6_eq k G σ h)).trans (by kernel_rfl)
@[simp] def n3 (G : KT1 R) (v0 v1 v4 : GV) (h : Heap) : Option R := n5 k (fun x v1 v4 h => kx x (n4 k G v1 h) (G x v4 h)) v0 v1 v4 h
theorem n3_eq (G : KT1 R) (σ : GS) (h : Heap) : KC k 27 c3 σ h (fun x σ h => G x (σ 4) h) = n3 k G (σ 0) (σ 1) (σ 4) h := (kseq (b := c4) rfl (fun σ h => n4_eq k G σ h)).trans (n5_eq k (fun x v1 v4 h => kx x (n4 k G v1 h) (G x v4 h)) σ h)
noncomputable def c15 : Code := cL c2
@[simp] def n2 (G : KT1 R) (v0 v1 v4 : GV) (h : Heap) : Option R := (kbin .lss v1 (.int .i64 0)).bind fun v11 => kcond v11 (G .ret (.int .i64 (-1)) h) (n3 k G v0 v1 v4 h)
theorem n2_eq (G : KT1 R) (σ : GS) (h : Heap) : KC k 27 c2 σ h (fun x σ h => G x (σ 4) h) = n2 k G (σ 0) (σ 1) (σ 4) h := (kseq (a := c15) (b := c3) rfl (fun σ h => n3_eq k G σ h)).trans (by kernel_rfl)
noncomputable def c16 : Code := cL c1
@[simp] def n1 (G : KT1 R) (v0 v1 v4 : GV) (h : Heap) : Option R := (klen v0).bind fun v8 => (kbin .sub v1 v8).bind fun v9 => n2 k G v0 v9 v4 h
theorem n1_eq (G : KT1 R) (σ : GS) (h : Heap) : KC k 27 c1 σ h (fun x σ h => G x (σ 4) h) = n1 k G (σ 0) (σ 1) (σ 4) h := (kseq (a := c16) (b := c2) rfl (fun σ h => n2_eq k G σ h)).trans (by kernel_rfl)
noncomputable def c17 : Code := cL c0
@[simp] def n0 (G : KT1 R) (v0 v1 : GV) (h : Heap) : Option R := n1 k G v0 v1 (.int .i64 0) h
theorem n0_eq (G : KT1 R) (σ : GS) (h : Heap) : KC k 27 c0 σ h (fun x σ h => G x (σ 4) h) = n0 k G (σ 0) (σ 1) h := (kseq (a := c17) (b := c1) rfl (fun σ h => n1_eq k G σ h)).trans (by kernel_rfl)
def run {R : Type} (k : Nat) (a0 : GV) (a1 : GV) (h : Heap) (fin : GV → Heap → Option R) : Option R := n0 k (fun x v4 h => kend x (fin v4 h)) a0 a1 h
theorem run_eq {R : Type} (k : Nat) (a0 : GV) (a1 : GV) (h : Heap) (fin : GV → Heap → Option R) : kfun PP cfg NN HH k fn.laws_szChangeS [a0, a1] h fin = run k a0 a1 h fin := (kfun_eq (nt := 27) (c := c0) (show PP.funcs[fn.laws_szChangeS]? = some Tryd.f156 by kernel_rfl) (by kernel_rfl) (by kernel_rfl) (fun x σ h => by cases x <;> kernel_rfl)).trans (n0_eq k (fun x v4 h => kend x (fin v4 h)) _ h)
theorem gives {k : Nat} {a0 : GV} {a1 : GV} {v : GV} (e : run k a0 a1 [] finN = some v) : NN fn.laws_szChangeS [a0, a1] = some v := nω_of (by kernel_rfl) ((run_eq k a0 a1 [] finN).trans e)
end S.laws_szChangeS
/-! laws_szChange -/
namespace S.laws_szChange
noncomputable def c0 : Code := bodyOf Tryd.f195
@[simp] def n0 {R : Type} (k : Nat) (G : KT1 R) (v0 v1 : GV) (h : Heap) : Option R := kbox v0 h fun v2 h => (kfa 2 v2).bind fun v5 => (kload1 h v5).bind fun v6 => (kN NN fn.laws_szCellS [v6, v1] h).bind fun v8 => (kbin .lss v8 (.int .i64 0)).bind fun v10 => kcond v10 (G .ret (.int .i64 (-1)) h) (G .ret v8 h)
theorem n0_eq (G : KT1 R) (σ : GS) (h : Heap) : KC k 12 c0 σ h (fun x σ h => G x (σ 4) h) = n0 k G (σ 0) (σ 1) h := by kernel_rfl
def run {R : Type} (k : Nat) (a0 : GV) (a1 : GV) (h : Heap) (fin : GV → Heap → Option R) : Option R := n0 k (fun x v4 h => kend x (fin v4 h)) a0 a1 h
theorem run_eq {R : Type} (k : Nat) (a0 : GV) (a1 : GV) (h : Heap) (fin : GV → Heap → Option R) : kfun PP cfg NN HH k fn.laws_szChange [a0, a1] h fin = run k a0 a1 h fin := (kfun_eq (nt := 12) (c := c0) (show PP.funcs[fn.laws_szChange]? = some Tryd.f195 by kernel_rfl) (by kernel_rfl) (by kernel_rfl) (fun x σ h => by cases x <;> kernel_rfl)).trans (n0_eq k (fun x v4 h => kend x (fin v4 h)) _ h)
theorem gives {k : Nat} {a0 : GV} {a1 : GV} {v : GV} (e : run k a0 a1 [] finN = some v) : NN fn.laws_szChange [a0, a1] = some v := nω_of (by kernel_rfl) ((run_eq k a0 a1 [] finN).trans e)
end S.laws_szChange
/-! laws_szCellS -/
namespace S.laws_szCellS
noncomputable def c0 : Code := bodyOf Tryd.f201
@[simp] def n0 {R : Type} (k : Nat) (G : KT1 R) (v0 v1 : GV) (h : Heap) : Option R := (klen v0).bind fun v7 => (kbin .sub v1 v7).bind fun v8 => (kbin .lss v8 (.int .i64 0)).bind fun v10 => kcond v10 (G .ret (.int .i64 (-1)) h) (G .ret v8 h)
theorem n0_eq (G : KT1 R) (σ : GS) (h : Heap) : KC k 12 c0 σ h (fun x σ h => G x (σ 4) h) = n0 k G (σ 0) (σ 1) h := by kernel_rfl
def run {R : Type} (k : Nat) (a0 : GV) (a1 : GV) (h : Heap) (fin : GV → Heap → Option R) : Option R := n0 k (fun x v4 h => kend x (fin v4 h)) a0 a1 h
theorem run_eq {R : Type} (k : Nat) (a0 : GV) (a1 : GV) (h : Heap) (fin : GV → Heap → Option R) : kfun PP cfg NN HH k fn.laws_szCellS [a0, a1] h fin = run k a0 a1 h fin := (kfun_eq (nt := 12) (c := c0) (show PP.funcs[fn.laws_szCellS]? = some Tryd.f201 by kernel_rfl) (by kernel_rfl) (by kernel_rfl) (fun x σ h => by cases x <;> kernel_rfl)).trans (n0_eq k (fun x v4 h => kend x (fin v4 h)) _ h)
theorem gives {k : Nat} {a0 : GV} {a1 : GV} {v : GV} (e : run k a0 a1 [] finN = some v) : NN fn.laws_szCellS [a0, a1] = some v := nω_of (by kernel_rfl) ((run_eq k a0 a1 [] finN).trans e)
end S.laws_szCellS
/-! laws_toFrame -/
namespace S.laws_toFrame
noncomputable def c0 : Code := bodyOf Tryd.f59
@[simp] def n0 {R : Type} (k : Nat) (G : KT1 R) (v0 : GV) (h : Heap) : Option R := kbox v0 h fun v1 h => kalloc [(.int .i64 0), (.int .i64 0), (.int .i64 0), (.int .i64 0), (.int .i64 0), .nils] h fun v2 h => kalloc [(.int .i64 0), (.int .i64 0), (.int .i64 0), (.int .i64 0), (.int .i64 0), .nils] h fun v3 h => (kfa 0 v1).bind fun v4 => (kload1 h v4).bind fun v5 => (kfa 0 v3).bind fun v6 => (kstore 1 h v6 v5).bind fun h => (kfa 1 v1).bind fun v7 => (kload1 h v7).bind fun v8 => (kfa 1 v3).bind fun v9 => (kstore 1 h v9 v8).bind fun h => (kfa 2 v1).bind fun v10 => (kload1 h v10).bind fun v11 => (kfa 2 v3).bind fun v12 => (kstore 1 h v12 v11).bind fun h => (kfa 3 v1).bind fun v13 => (kloadA 3 h v13).bind fun v14 => (kN NN fn.laws_toPatch [v14] h).bind fun v15 => (kfa 3 v3).bind fun v16 => (kstore 3 h v16 v15).bind fun h => (kloadA 6 h v3).bind fun v17 => (kstore 6 h v2 v17).bind fun h => G .ret v2 h
theorem n0_eq (G : KT1 R) (σ : GS) (h : Heap) : KC k 18 c0 σ h (fun x σ h => G x (σ 2) h) = n0 k G (σ 0) h := by kernel_rfl
def run {R : Type} (k : Nat) (a0 : GV) (h : Heap) (fin : GV → Heap → Option R) : Option R := n0 k (fun x v2 h => kend x ((kloadA 6 h v2).bind fun w2 => fin w2 h)) a0 h
theorem run_eq {R : Type} (k : Nat) (a0 : GV) (h : Heap) (fin : GV → Heap → Option R) : kfun PP cfg NN HH k fn.laws_toFrame [a0] h fin = run k a0 h fin := (kfun_eq (nt := 18) (c := c0) (show PP.funcs[fn.laws_toFrame]? = some Tryd.f59 by kernel_rfl) (by kernel_rfl) (by kernel_rfl) (fun x σ h => by cases x <;> kernel_rfl)).trans (n0_eq k (fun x v2 h => kend x ((kloadA 6 h v2).bind fun w2 => fin w2 h)) _ h)
theorem gives {k : Nat} {a0 : GV} {v : GV} (e : run k a0 [] finN = some v) : NN fn.laws_toFrame [a0] = some v := nω_of (by kernel_rfl) ((run_eq k a0 [] finN).trans e)
end S.laws_toFrame
/-! laws_toPatch -/
namespace S.laws_toPatch
noncomputable def c0 : Code := bodyOf Tryd.f109
@[simp] def n0 {R : Type} (k : Nat) (G : KT1 R) (v0 : GV) (h : Heap) : Option R := kbox v0 h fun v1 h => kalloc [(.int .i64 0), (.int .i64 0), .nils] h fun v2 h => kalloc [(.int .i64 0), (.int .i64 0), .nils] h fun v3 h => (kfa 0 v1).bind fun v4 => (kload1 h v4).bind fun v5 => (kfa 0 v3).bind fun v6 => (kstore 1 h v6 v5).bind fun h => (kfa 1 v1).bind fun v7 => (kload1 h v7).bind fun v8 => (kfa 1 v3).bind fun v9 => (kstore 1 h v9 v8).bind fun h => (kfa 2 v1).bind fun v10 => (kload1 h v10).bind fun v11 => (kN NN fn.laws_toChangeS [v11] h).bind fun v12 => (kfa 2 v3).bind fun v13 => (kstore 1 h v13 v12).bind fun h => (kloadA 3 h v3).bind fun v14 => (kstore 3 h v2 v14).bind fun h => G .ret v2 h
theorem n0_eq (G : KT1 R) (σ : GS) (h : Heap) : KC k 15 c0 σ h (fun x σ h => G x (σ 2) h) = n0 k G (σ 0) h := by kernel_rfl
def run {R : Type} (k : Nat) (a0 : GV) (h : Heap) (fin : GV → Heap → Option R) : Option R := n0 k (fun x v2 h => kend x ((kloadA 3 h v2).bind fun w2 => fin w2 h)) a0 h
theorem run_eq {R : Type} (k : Nat) (a0 : GV) (h : Heap) (fin : GV → Heap → Option R) : kfun PP cfg NN HH k fn.laws_toPatch [a0] h fin = run k a0 h fin := (kfun_eq (nt := 15) (c := c0) (show PP.funcs[fn.laws_toPatch]? = some Tryd.f109 by kernel_rfl) (by kernel_rfl) (by kernel_rfl) (fun x σ h => by cases x <;> kernel_rfl)).trans (n0_eq k (fun x v2 h => kend x ((kloadA 3 h v2).bind fun w2 => fin w2 h)) _ h)
theorem gives {k : Nat} {a0 : GV} {v : GV} (e : run k a0 [] finN = some v) : NN fn.laws_toPatch [a0] = some v := nω_of (by kernel_rfl) ((run_eq k a0 [] finN).trans e)
end S.laws_toPatch
/-! laws_toChangeS -/
namespace S.laws_toChangeS
noncomputable def c0 : Code := bodyOf Tryd.f158
noncomputable def c1 : Code := cR c0
noncomputable def c2 : Code := cR c1
noncomputable def c3 : Code := cR c2
@[simp] def n3 {R : Type} (k : Nat) (G : KT1 R) (v3 : GV) (h : Heap) : Option R := G .ret v3 h
theorem n3_eq (G : KT1 R) (σ : GS) (h : Heap) : KC k 23 c3 σ h (fun x σ h => G x (σ 2) h) = n3 k G (σ 3) h := by kernel_rfl
noncomputable def c4 : Code := cL c2
noncomputable def c5 : Code := cR c4
noncomputable def c6 : Code := cL c5
noncomputable def c7 : Code := cL c6
noncomputable def c8 : Code := cR c7
noncomputable def c9 : Code := cR c8
@[simp] def n9 {R : Type} (k : Nat) (G : KT4 R) (v0 v2 v3 v4 : GV) (h : Heap) : Option R := (kbin .add v4 (.int .i64 1)).bind fun v13 => G .nrm v0 v2 v3 v13 h
theorem n9_eq (G : KT4 R) (σ : GS) (h : Heap) : KC k 23 c9 σ h (fun x σ h => G x (σ 0) (σ 2) (σ 3) (σ 4) h) = n9 k G (σ 0) (σ 2) (σ 3) (σ 4) h := by kernel_rfl
noncomputable def c10 : Code := cL c8
noncomputable def c11 : Code := cL c10
@[simp] def n11 {R : Type} (k : Nat) (G : KT4 R) (v0 v2 v3 v4 : GV) (h : Heap) : Option R := (kia 3 v0 v4).bind fun v18 => (kloadA 3 h v18).bind fun v19 => (kN NN fn.laws_toChange [v19] h).bind fun v20 => (kia 3 v3 v4).bind fun v21 => (kstore 3 h v21 v20).bind fun h => G .nrm v0 v2 v3 v4 h
theorem n11_eq (G : KT4 R) (σ : GS) (h : Heap) : KC k 23 c11 σ h (fun x σ h => G x (σ 0) (σ 2) (σ 3) (σ 4) h) = n11 k G (σ 0) (σ 2) (σ 3) (σ 4) h := by kernel_rfl
@[simp] def n10 (G : KT4 R) (v0 v2 v3 v4 : GV) (h : Heap) : Option R := n11 k (fun x v0 v2 v3 v4 h => kb 1 x fun x => G x v0 v2 v3 v4 h) v0 v2 v3 v4 h
theorem n10_eq (G : KT4 R) (σ : GS) (h : Heap) : KC k 23 c10 σ h (fun x σ h => G x (σ 0) (σ 2) (σ 3) (σ 4) h) = n10 k G (σ 0) (σ 2) (σ 3) (σ 4) h := (kblock_eq (a := c11) rfl).trans (n11_eq k (fun x v0 v2 v3 v4 h => kb 1 x fun x => G x v0 v2 v3 v4 h) σ h)
@[simp] def n8 (G : KT4 R) (v0 v2 v3 v4 : GV) (h : Heap) : Option R := n10 k (fun x v0 v2 v3 v4 h => kx x (n9 k G v0 v2 v3 v4 h) (G x v0 v2 v3 v4 h)) v0 v2 v3 v4 h
theorem n8_eq (G : KT4 R) (σ : GS) (h : Heap) : KC k 23 c8 σ h (fun x σ h => G x (σ 0) (σ 2) (σ 3) (σ 4) h) = n8 k G (σ 0) (σ 2) (σ 3) (σ 4) h := (kseq (b := c9) rfl (fun σ h => n9_eq k G σ h)).trans (n10_eq k (fun x v0 v2 v3 v4 h => kx x (n9 k G v0 v2 v3 v4 h) (G x v0 v2 v3 v4 h)) σ h)
noncomputable def c12 : Code := cL c7
@[simp] def n7 (G : KT4 R) (v0 v2 v3 v4 : GV) (h : Heap) : Option R := (klen v0).bind fun v10 => (kbin .lss v4 v10).bind fun v11 => kcond v11 (n8 k G v0 v2 v3 v4 h) (G (.ext 0) v0 v2 v3 v4 h)
theorem n7_eq (G : KT4 R) (σ : GS) (h : Heap) : KC k 23 c7 σ h (fun x σ h => G x (σ 0) (σ 2) (σ 3) (σ 4) h) = n7 k G (σ 0) (σ 2) (σ 3) (σ 4) h := (kseq (a := c12) (b := c8) rfl (fun σ h => n8_eq k G σ h)).trans (by kernel_rfl)
def l6 {R : Type} (k : Nat) (G : KT2 R) : Nat → GV → GV → GV → GV → Heap → Option R
  | 0, _, _, _, _, _ => none
  | r + 1, v0, v2, v3, v4, h => n7 k (fun x v0 v2 v3 v4 h => kx x (l6 k G r v0 v2 v3 v4 h) (G x v2 v3 h)) v0 v2 v3 v4 h
theorem l6_eq {R : Type} (k : Nat) (G : KT2 R) : ∀ (r : Nat) (σ : GS) (h : Heap), kloop (fun σ h K => KC k 23 c7 σ h K) r σ h (fun x σ h => G x (σ 2) (σ 3) h) = l6 k G r (σ 0) (σ 2) (σ 3) (σ 4) h
  | 0, _, _ => rfl
  | r + 1, σ, h => (kloop_eq (fun σ h => l6_eq k G r σ h)).trans (n7_eq k (fun x v0 v2 v3 v4 h => kx x (l6 k G r v0 v2 v3 v4 h) (G x v2 v3 h)) σ h)
@[simp] def n6 (G : KT2 R) (v0 v2 v3 v4 : GV) (h : Heap) : Option R := l6 k G k v0 v2 v3 v4 h
theorem n6_eq (G : KT2 R) (σ : GS) (h : Heap) : KC k 23 c6 σ h (fun x σ h => G x (σ 2) (σ 3) h) = n6 k G (σ 0) (σ 2) (σ 3) (σ 4) h := (kloopc_eq (a := c7) rfl).trans (l6_eq k G k σ h)
@[simp] def n5 (G : KT2 R) (v0 v2 v3 v4 : GV) (h : Heap) : Option R := n6 k (fun x v2 v3 h => kb 0 x fun x => G x v2 v3 h) v0 v2 v3 v4 h
theorem n5_eq (G : KT2 R) (σ : GS) (h : Heap) : KC k 23 c5 σ h (fun x σ h => G x (σ 2) (σ 3) h) = n5 k G (σ 0) (σ 2) (σ 3) (σ 4) h := (kblock_eq (a := c6) rfl).trans (n6_eq k (fun x v2 v3 h => kb 0 x fun x => G x v2 v3 h) σ h)
noncomputable def c13 : Code := cL c4
@[simp] def n4 (G : KT2 R) (v0 v2 v3 : GV) (h : Heap) : Option R := n5 k G v0 v2 v3 (.int .i64 0) h
theorem n4_eq (G : KT2 R) (σ : GS) (h : Heap) : KC k 23 c4 σ h (fun x σ h => G x (σ 2) (σ 3) h) = n4 k G (σ 0) (σ 2) (σ 3) h := (kseq (a := c13) (b := c5) rfl (fun σ h => n5_eq k G σ h)).trans (by kernel_rfl)
@[simp] def n2 (G : KT1 R) (v0 v2 v3 : GV) (h : Heap) : Option R := n4 k (fun x v2 v3 h => kx x (n3 k G v3 h) (G x v2 h)) v0 v2 v3 h
theorem n2_eq (G : KT1 R) (σ : GS) (h : Heap) : KC k 23 c2 σ h (fun x σ h => G x (σ 2) h) = n2 k G (σ 0) (σ 2) (σ 3) h := (kseq (b := c3) rfl (fun σ h => n3_eq k G σ h)).trans (n4_eq k (fun x v2 v3 h => kx x (n3 k G v3 h) (G x v2 h)) σ h)
noncomputable def c14 : Code := cL c1
@[simp] def n1 (G : KT1 R) (v0 v2 : GV) (h : Heap) : Option R := (klen v0).bind fun v6 => (kmake [(.int .i64 0), (.int .i64 0), .nils] 3 40 v6 v6 h).bind fun r => kr r fun v7 h => n2 k G v0 v2 v7 h
theorem n1_eq (G : KT1 R) (σ : GS) (h : Heap) : KC k 23 c1 σ h (fun x σ h => G x (σ 2) h) = n1 k G (σ 0) (σ 2) h := (kseq (a := c14) (b := c2) rfl (fun σ h => n2_eq k G σ h)).trans (by kernel_rfl)
noncomputable def c15 : Code := cL c0
@[simp] def n0 (G : KT1 R) (v0 : GV) (h : Heap) : Option R := n1 k G v0 .nils h
theorem n0_eq (G : KT1 R) (σ : GS) (h : Heap) : KC k 23 c0 σ h (fun x σ h => G x (σ 2) h) = n0 k G (σ 0) h := (kseq (a := c15) (b := c1) rfl (fun σ h => n1_eq k G σ h)).trans (by kernel_rfl)
def run {R : Type} (k : Nat) (a0 : GV) (h : Heap) (fin : GV → Heap → Option R) : Option R := n0 k (fun x v2 h => kend x (fin v2 h)) a0 h
theorem run_eq {R : Type} (k : Nat) (a0 : GV) (h : Heap) (fin : GV → Heap → Option R) : kfun PP cfg NN HH k fn.laws_toChangeS [a0] h fin = run k a0 h fin := (kfun_eq (nt := 23) (c := c0) (show PP.funcs[fn.laws_toChangeS]? = some Tryd.f158 by kernel_rfl) (by kernel_rfl) (by kernel_rfl) (fun x σ h => by cases x <;> kernel_rfl)).trans (n0_eq k (fun x v2 h => kend x (fin v2 h)) _ h)
theorem gives {k : Nat} {a0 : GV} {v : GV} (e : run k a0 [] finN = some v) : NN fn.laws_toChangeS [a0] = some v := nω_of (by kernel_rfl) ((run_eq k a0 [] finN).trans e)
end S.laws_toChangeS
/-! laws_toChange -/
namespace S.laws_toChange
noncomputable def c0 : Code := bodyOf Tryd.f197
@[simp] def n0 {R : Type} (k : Nat) (G : KT1 R) (v0 : GV) (h : Heap) : Option R := kbox v0 h fun v1 h => kalloc [(.int .i64 0), (.int .i64 0), .nils] h fun v2 h => kalloc [(.int .i64 0), (.int .i64 0), .nils] h fun v3 h => (kfa 0 v1).bind fun v4 => (kload1 h v4).bind fun v5 => (kfa 0 v3).bind fun v6 => (kstore 1 h v6 v5).bind fun h => (kfa 1 v1).bind fun v7 => (kload1 h v7).bind fun v8 => (kfa 1 v3).bind fun v9 => (kstore 1 h v9 v8).bind fun h => (kfa 2 v1).bind fun v10 => (kload1 h v10).bind fun v11 => (kN NN fn.laws_toCellS [v11] h).bind fun v12 => (kfa 2 v3).bind fun v13 => (kstore 1 h v13 v12).bind fun h => (kloadA 3 h v3).bind fun v14 => (kstore 3 h v2 v14).bind fun h => G .ret v2 h
theorem n0_eq (G : KT1 R) (σ : GS) (h : Heap) : KC k 15 c0 σ h (fun x σ h => G x (σ 2) h) = n0 k G (σ 0) h := by kernel_rfl
def run {R : Type} (k : Nat) (a0 : GV) (h : Heap) (fin : GV → Heap → Option R) : Option R := n0 k (fun x v2 h => kend x ((kloadA 3 h v2).bind fun w2 => fin w2 h)) a0 h
theorem run_eq {R : Type} (k : Nat) (a0 : GV) (h : Heap) (fin : GV → Heap → Option R) : kfun PP cfg NN HH k fn.laws_toChange [a0] h fin = run k a0 h fin := (kfun_eq (nt := 15) (c := c0) (show PP.funcs[fn.laws_toChange]? = some Tryd.f197 by kernel_rfl) (by kernel_rfl) (by kernel_rfl) (fun x σ h => by cases x <;> kernel_rfl)).trans (n0_eq k (fun x v2 h => kend x ((kloadA 3 h v2).bind fun w2 => fin w2 h)) _ h)
theorem gives {k : Nat} {a0 : GV} {v : GV} (e : run k a0 [] finN = some v) : NN fn.laws_toChange [a0] = some v := nω_of (by kernel_rfl) ((run_eq k a0 [] finN).trans e)
end S.laws_toChange
/-! laws_toCellS -/
namespace S.laws_toCellS
noncomputable def c0 : Code := bodyOf Tryd.f205
noncomputable def c1 : Code := cR c0
noncomputable def c2 : Code := cR c1
noncomputable def c3 : Code := cR c2
@[simp] def n3 {R : Type} (k : Nat) (G : KT1 R) (v3 : GV) (h : Heap) : Option R := G .ret v3 h
theorem n3_eq (G : KT1 R) (σ : GS) (h : Heap) : KC k 23 c3 σ h (fun x σ h => G x (σ 2) h) = n3 k G (σ 3) h := by kernel_rfl
noncomputable def c4 : Code := cL c2
noncomputable def c5 : Code := cR c4
noncomputable def c6 : Code := cL c5
noncomputable def c7 : Code := cL c6
noncomputable def c8 : Code := cR c7
noncomputable def c9 : Code := cR c8
@[simp] def n9 {R : Type} (k : Nat) (G : KT4 R) (v0 v2 v3 v4 : GV) (h : Heap) : Option R := (kbin .add v4 (.int .i64 1)).bind fun v13 => G .nrm v0 v2 v3 v13 h
theorem n9_eq (G : KT4 R) (σ : GS) (h : Heap) : KC k 23 c9 σ h (fun x σ h => G x (σ 0) (σ 2) (σ 3) (σ 4) h) = n9 k G (σ 0) (σ 2) (σ 3) (σ 4) h := by kernel_rfl
noncomputable def c10 : Code := cL c8
noncomputable def c11 : Code := cL c10
@[simp] def n11 {R : Type} (k : Nat) (G : KT4 R) (v0 v2 v3 v4 : GV) (h : Heap) : Option R := (kia 7 v0 v4).bind fun v18 => (kloadA 7 h v18).bind fun v19 => (kN NN fn.laws_toCell [v19] h).bind fun v20 => (kia 7 v3 v4).bind fun v21 => (kstore 7 h v21 v20).bind fun h => G .nrm v0 v2 v3 v4 h
theorem n11_eq (G : KT4 R) (σ : GS) (h : Heap) : KC k 23 c11 σ h (fun x σ h => G x (σ 0) (σ 2) (σ 3) (σ 4) h) = n11 k G (σ 0) (σ 2) (σ 3) (σ 4) h := by kernel_rfl
@[simp] def n10 (G : KT4 R) (v0 v2 v3 v4 : GV) (h : Heap) : Option R := n11 k (fun x v0 v2 v3 v4 h => kb 1 x fun x => G x v0 v2 v3 v4 h) v0 v2 v3 v4 h
theorem n10_eq (G : KT4 R) (σ : GS) (h : Heap) : KC k 23 c10 σ h (fun x σ h => G x (σ 0) (σ 2) (σ 3) (σ 4) h) = n10 k G (σ 0) (σ 2) (σ 3) (σ 4) h := (kblock_eq (a := c11) rfl).trans (n11_eq k (fun x v0 v2 v3 v4 h => kb 1 x fun x => G x v0 v2 v3 v4 h) σ h)
@[simp] def n8 (G : KT4 R) (v0 v2 v3 v4 : GV) (h : Heap) : Option R := n10 k (fun x v0 v2 v3 v4 h => kx x (n9 k G v0 v2 v3 v4 h) (G x v0 v2 v3 v4 h)) v0 v2 v3 v4 h
theorem n8_eq (G : KT4 R) (σ : GS) (h : Heap) : KC k 23 c8 σ h (fun x σ h => G x (σ 0) (σ 2) (σ 3) (σ 4) h) = n8 k G (σ 0) (σ 2) (σ 3) (σ 4) h := (kseq (b := c9) rfl (fun σ h => n9_eq k G σ h)).trans (n10_eq k (fun x v0 v2 v3 v4 h => kx x (n9 k G v0 v2 v3 v4 h) (G x v0 v2 v3 v4 h)) σ h)
noncomputable def c12 : Code := cL c7
@[simp] def n7 (G : KT4 R) (v0 v2 v3 v4 : GV) (h : Heap) : Option R := (klen v0).bind fun v10 => (kbin .lss v4 v10).bind fun v11 => kcond v11 (n8 k G v0 v2 v3 v4 h) (G (.ext 0) v0 v2 v3 v4 h)
theorem n7_eq (G : KT4 R) (σ : GS) (h : Heap) : KC k 23 c7 σ h (fun x σ h => G x (σ 0) (σ 2) (σ 3) (σ 4) h) = n7 k G (σ 0) (σ 2) (σ 3) (σ 4) h := (kseq (a := c12) (b := c8) rfl (fun σ h => n8_eq k G σ h)).trans (by kernel_rfl)
def l6 {R : Type} (k : Nat) (G : KT2 R) : Nat → GV → GV → GV → GV → Heap → Option R
  | 0, _, _, _, _, _ => none
  | r + 1, v0, v2, v3, v4, h => n7 k (fun x v0 v2 v3 v4 h => kx x (l6 k G r v0 v2 v3 v4 h) (G x v2 v3 h)) v0 v2 v3 v4 h
theorem l6_eq {R : Type} (k : Nat) (G : KT2 R) : ∀ (r : Nat) (σ : GS) (h : Heap), kloop (fun σ h K => KC k 23 c7 σ h K) r σ h (fun x σ h => G x (σ 2) (σ 3) h) = l6 k G r (σ 0) (σ 2) (σ 3) (σ 4) h
  | 0, _, _ => rfl
  | r + 1, σ, h => (kloop_eq (fun σ h => l6_eq k G r σ h)).trans (n7_eq k (fun x v0 v2 v3 v4 h => kx x (l6 k G r v0 v2 v3 v4 h) (G x v2 v3 h)) σ h)
@[simp] def n6 (G : KT2 R) (v0 v2 v3 v4 : GV) (h : Heap) : Option R := l6 k G k v0 v2 v3 v4 h
theorem n6_eq (G : KT2 R) (σ : GS) (h : Heap) : KC k 23 c6 σ h (fun x σ h => G x (σ 2) (σ 3) h) = n6 k G (σ 0) (σ 2) (σ 3) (σ 4) h := (kloopc_eq (a := c7) rfl).trans (l6_eq k G k σ h)
@[simp] def n5 (G : KT2 R) (v0 v2 v3 v4 : GV) (h : Heap) : Option R := n6 k (fun x v2 v3 h => kb 0 x fun x => G x v2 v3 h) v0 v2 v3 v4 h
theorem n5_eq (G : KT2 R) (σ : GS) (h : Heap) : KC k 23 c5 σ h (fun x σ h => G x (σ 2) (σ 3) h) = n5 k G (σ 0) (σ 2) (σ 3) (σ 4) h := (kblock_eq (a := c6) rfl).trans (n6_eq k (fun x v2 v3 h => kb 0 x fun x => G x v2 v3 h) σ h)
noncomputable def c13 : Code := cL c4
@[simp] def n4 (G : KT2 R) (v0 v2 v3 : GV) (h : Heap) : Option R := n5 k G v0 v2 v3 (.int .i64 0) h
theorem n4_eq (G : KT2 R) (σ : GS) (h : Heap) : KC k 23 c4 σ h (fun x σ h => G x (σ 2) (σ 3) h) = n4 k G (σ 0) (σ 2) (σ 3) h := (kseq (a := c13) (b := c5) rfl (fun σ h => n5_eq k G σ h)).trans (by kernel_rfl)
@[simp] def n2 (G : KT1 R) (v0 v2 v3 : GV) (h : Heap) : Option R := n4 k (fun x v2 v3 h => kx x (n3 k G v3 h) (G x v2 h)) v0 v2 v3 h
theorem n2_eq (G : KT1 R) (σ : GS) (h : Heap) : KC k 23 c2 σ h (fun x σ h => G x (σ 2) h) = n2 k G (σ 0) (σ 2) (σ 3) h := (kseq (b := c3) rfl (fun σ h => n3_eq k G σ h)).trans (n4_eq k (fun x v2 v3 h => kx x (n3 k G v3 h) (G x v2 h)) σ h)
noncomputable def c14 : Code := cL c1
@[simp] def n1 (G : KT1 R) (v0 v2 : GV) (h : Heap) : Option R := (klen v0).bind fun v6 => (kmake [(.int .i64 0), (.int .i64 0), (.int .i64 0), (.bool false), (.bool false), (.bool false), (.int .i64 0)] 7 40 v6 v6 h).bind fun r => kr r fun v7 h => n2 k G v0 v2 v7 h
theorem n1_eq (G : KT1 R) (σ : GS) (h : Heap) : KC k 23 c1 σ h (fun x σ h => G x (σ 2) h) = n1 k G (σ 0) (σ 2) h := (kseq (a := c14) (b := c2) rfl (fun σ h => n2_eq k G σ h)).trans (by kernel_rfl)
noncomputable def c15 : Code := cL c0
@[simp] def n0 (G : KT1 R) (v0 : GV) (h : Heap) : Option R := n1 k G v0 .nils h
theorem n0_eq (G : KT1 R) (σ : GS) (h : Heap) : KC k 23 c0 σ h (fun x σ h => G x (σ 2) h) = n0 k G (σ 0) h := (kseq (a := c15) (b := c1) rfl (fun σ h => n1_eq k G σ h)).trans (by kernel_rfl)
def run {R : Type} (k : Nat) (a0 : GV) (h : Heap) (fin : GV → Heap → Option R) : Option R := n0 k (fun x v2 h => kend x (fin v2 h)) a0 h
theorem run_eq {R : Type} (k : Nat) (a0 : GV) (h : Heap) (fin : GV → Heap → Option R) : kfun PP cfg NN HH k fn.laws_toCellS [a0] h fin = run k a0 h fin := (kfun_eq (nt := 23) (c := c0) (show PP.funcs[fn.laws_toCellS]? = some Tryd.f205 by kernel_rfl) (by kernel_rfl) (by kernel_rfl) (fun x σ h => by cases x <;> kernel_rfl)).trans (n0_eq k (fun x v2 h => kend x (fin v2 h)) _ h)
theorem gives {k : Nat} {a0 : GV} {v : GV} (e : run k a0 [] finN = some v) : NN fn.laws_toCellS [a0] = some v := nω_of (by kernel_rfl) ((run_eq k a0 [] finN).trans e)
end S.laws_toCellS
/-! laws_toCell -/
namespace S.laws_toCell
noncomputable def c0 : Code := bodyOf Tryd.f232
@[simp] def n0 {R : Type} (k : Nat) (G : KT1 R) (v0 : GV) (h : Heap) : Option R := kbox v0 h fun v1 h => kalloc [(.int .i64 0), (.int .i64 0), (.int .i64 0), (.bool false), (.bool false), (.bool false), (.int .i64 0)] h fun v2 h => kalloc [(.int .i64 0), (.int .i64 0), (.int .i64 0), (.bool false), (.bool false), (.bool false), (.int .i64 0)] h fun v3 h => (kfa 0 v1).bind fun v4 => (kload1 h v4).bind fun v5 => (kfa 0 v3).bind fun v6 => (kstore 1 h v6 v5).bind fun h => (kfa 1 v1).bind fun v7 => (kloadA 5 h v7).bind fun v8 => (kN NN fn.laws_toStyle [v8] h).bind fun v9 => (kfa 1 v3).bind fun v10 => (kstore 5 h v10 v9).bind fun h => (kfa 6 v1).bind fun v11 => (kload1 h v11).bind fun v12 => (kfa 6 v3).bind fun v13 => (kstore 1 h v13 v12).bind fun h => (kloadA 7 h v3).bind fun v14 => (kstore 7 h v2 v14).bind fun h => G .ret v2 h
theorem n0_eq (G : KT1 R) (σ : GS) (h : Heap) : KC k 15 c0 σ h (fun x σ h => G x (σ 2) h) = n0 k G (σ 0) h := by kernel_rfl
def run {R : Type} (k : Nat) (a0 : GV) (h : Heap) (fin : GV → Heap → Option R) : Option R := n0 k (fun x v2 h => kend x ((kloadA 7 h v2).bind fun w2 => fin w2 h)) a0 h
theorem run_eq {R : Type} (k : Nat) (a0 : GV) (h : Heap) (fin : GV → Heap → Option R) : kfun PP cfg NN HH k fn.laws_toCell [a0] h fin = run k a0 h fin := (kfun_eq (nt := 15) (c := c0) (show PP.funcs[fn.laws_toCell]? = some Tryd.f232 by kernel_rfl) (by kernel_rfl) (by kernel_rfl) (fun x σ h => by cases x <;> kernel_rfl)).trans (n0_eq k (fun x v2 h => kend x ((kloadA 7 h v2).bind fun w2 => fin w2 h)) _ h)
theorem gives {k : Nat} {a0 : GV} {v : GV} (e : run k a0 [] finN = some v) : NN fn.laws_toCell [a0] = some v := nω_of (by kernel_rfl) ((run_eq k a0 [] finN).trans e)
end S.laws_toCell
/-! laws_toStyle -/
namespace S.laws_toStyle
noncomputable def c0 : Code := bodyOf Tryd.f123
@[simp] def n0 {R : Type} (k : Nat) (G : KT1 R) (v0 : GV) (h : Heap) : Option R := kbox v0 h fun v1 h => kalloc [(.int .i64 0), (.int .i64 0), (.bool false), (.bool false), (.bool false)] h fun v2 h => kalloc [(.int .i64 0), (.int .i64 0), (.bool false), (.bool false), (.bool false)] h fun v3 h => (kfa 0 v1).bind fun v4 => (kload1 h v4).bind fun v5 => (kfa 0 v3).bind fun v6 => (kstore 1 h v6 v5).bind fun h => (kfa 1 v1).bind fun v7 => (kload1 h v7).bind fun v8 => (kfa 1 v3).bind fun v9 => (kstore 1 h v9 v8).bind fun h => (kfa 2 v1).bind fun v10 => (kload1 h v10).bind fun v11 => (kfa 2 v3).bind fun v12 => (kstore 1 h v12 v11).bind fun h => (kfa 3 v1).bind fun v13 => (kload1 h v13).bind fun v14 => (kfa 3 v3).bind fun v15 => (kstore 1 h v15 v14).bind fun h => (kfa 4 v1).bind fun v16 => (kload1 h v16).bind fun v17 => (kfa 4 v3).bind fun v18 => (kstore 1 h v18 v17).bind fun h => (kloadA 5 h v3).bind fun v19 => (kstore 5 h v2 v19).bind fun h => G .ret v2 h
theorem n0_eq (G : KT1 R) (σ : GS) (h : Heap) : KC k 20 c0 σ h (fun x σ h => G x (σ 2) h) = n0 k G (σ 0) h := by kernel_rfl
def run {R : Type} (k : Nat) (a0 : GV) (h : Heap) (fin : GV → Heap → Option R) : Option R := n0 k (fun x v2 h => kend x ((kloadA 5 h v2).bind fun w2 => fin w2 h)) a0 h
theorem run_eq {R : Type} (k : Nat) (a0 : GV) (h : Heap) (fin : GV → Heap → Option R) : kfun PP cfg NN HH k fn.laws_toStyle [a0] h fin = run k a0 h fin := (kfun_eq (nt := 20) (c := c0) (show PP.funcs[fn.laws_toStyle]? = some Tryd.f123 by kernel_rfl) (by kernel_rfl) (by kernel_rfl) (fun x σ h => by cases x <;> kernel_rfl)).trans (n0_eq k (fun x v2 h => kend x ((kloadA 5 h v2).bind fun w2 => fin w2 h)) _ h)
theorem gives {k : Nat} {a0 : GV} {v : GV} (e : run k a0 [] finN = some v) : NN fn.laws_toStyle [a0] = some v := nω_of (by kernel_rfl) ((run_eq k a0 [] finN).trans e)
end S.laws_toStyle
/-! laws_eqFrame -/
namespace S.laws_eqFrame
noncomputable def c0 : Code := bodyOf Tryd.f61
@[simp] def n0 {R : Type} (k : Nat) (G : KT1 R) (v0 v1 : GV) (h : Heap) : Option R := kbox v0 h fun v2 h => kbox v1 h fun v3 h => (kfa 0 v2).bind fun v5 => (kload1 h v5).bind fun v6 => (kfa 0 v3).bind fun v7 => (kload1 h v7).bind fun v8 => (kbin .neq v6 v8).bind fun v9 => kcond v9 (G .ret (.bool false) h) ((kfa 1 v2).bind fun v10 => (kload1 h v10).bind fun v11 => (kfa 1 v3).bind fun v12 => (kload1 h v12).bind fun v13 => (kbin .neq v11 v13).bind fun v14 => kcond v14 (G .ret (.bool false) h) ((kfa 2 v2).bind fun v15 => (kload1 h v15).bind fun v16 => (kfa 2 v3).bind fun v17 => (kload1 h v17).bind fun v18 => (kbin .neq v16 v18).bind fun v19 => kcond v19 (G .ret (.bool false) h) ((kfa 3 v2).bind fun v20 => (kloadA 3 h v20).bind fun v21 => (kfa 3 v3).bind fun v22 => (kloadA 3 h v22).bind fun v23 => (kN NN fn.laws_eqPatch [v21, v23] h).bind fun v24 => (kun .not v24).bind fun v25 => kcond v25 (G .ret (.bool false) h) (G .ret (.bool true) h))))
theorem n0_eq (G : KT1 R) (σ : GS) (h : Heap) : KC k 26 c0 σ h (fun x σ h => G x (σ 4) h) = n0 k G (σ 0) (σ 1) h := by kernel_rfl
def run {R : Type} (k : Nat) (a0 : GV) (a1 : GV) (h : Heap) (fin : GV → Heap → Option R) : Option R := n0 k (fun x v4 h => kend x (fin v4 h)) a0 a1 h
theorem run_eq {R : Type} (k : Nat) (a0 : GV) (a1 : GV) (h : Heap) (fin : GV → Heap → Option R) : kfun PP cfg NN HH k fn.laws_eqFrame [a0, a1] h fin = run k a0 a1 h fin := (kfun_eq (nt := 26) (c := c0) (show PP.funcs[fn.laws_eqFrame]? = some Tryd.f61 by kernel_rfl) (by kernel_rfl) (by kernel_rfl) (fun x σ h => by cases x <;> kernel_rfl)).trans (n0_eq k (fun x v4 h => kend x (fin v4 h)) _ h)
theorem gives {k : Nat} {a0 : GV} {a1 : GV} {v : GV} (e : run k a0 a1 [] finN = some v) : NN fn.laws_eqFrame [a0, a1] = some v := nω_of (by kernel_rfl) ((run_eq k a0 a1 [] finN).trans e)
end S.laws_eqFrame
/-! laws_eqPatch -/
namespace S.laws_eqPatch
noncomputable def c0 : Code := bodyOf Tryd.f111
@[simp] def n0 {R : Type} (k : Nat) (G : KT1 R) (v0 v1 : GV) (h : Heap) : Option R := kbox v0 h fun v2 h => kbox v1 h fun v3 h => (kfa 0 v2).bind fun v5 => (kload1 h v5).bind fun v6 => (kfa 0 v3).bind fun v7 => (kload1 h v7).bind fun v8 => (kbin .neq v6 v8).bind fun v9 => kcond v9 (G .ret (.bool false) h) ((kfa 1 v2).bind fun v10 => (kload1 h v10).bind fun v11 => (kfa 1 v3).bind fun v12 => (kload1 h v12).bind fun v13 => (kbin .neq v11 v13).bind fun v14 => kcond v14 (G .ret (.bool false) h) ((kfa 2 v2).bind fun v15 => (kload1 h v15).bind fun v16 => (kfa 2 v3).bind fun v17 => (kload1 h v17).bind fun v18 => (kN NN fn.laws_eqChangeS [v16, v18] h).bind fun v19 => (kun .not v19).bind fun v20 => kcond v20 (G .ret (.bool false) h) (G .ret (.bool true) h)))
theorem n0_eq (G : KT1 R) (σ : GS) (h : Heap) : KC k 21 c0 σ h (fun x σ h => G x (σ 4) h) = n0 k G (σ 0) (σ 1) h := by kernel_rfl
def run {R : Type} (k : Nat) (a0 : GV) (a1 : GV) (h : Heap) (fin : GV → Heap → Option R) : Option R := n0 k (fun x v4 h => kend x (fin v4 h)) a0 a1 h
theorem run_eq {R : Type} (k : Nat) (a0 : GV) (a1 : GV) (h : Heap) (fin : GV → Heap → Option R) : kfun PP cfg NN HH k fn.laws_eqPatch [a0, a1] h fin = run k a0 a1 h fin := (kfun_eq (nt := 21) (c := c0) (show PP.funcs[fn.laws_eqPatch]? = some Tryd.f111 by kernel_rfl) (by kernel_rfl) (by kernel_rfl) (fun x σ h => by cases x <;> kernel_rfl)).trans (n0_eq k (fun x v4 h => kend x (fin v4 h)) _ h)
theorem gives {k : Nat} {a0 : GV} {a1 : GV} {v : GV} (e : run k a0 a1 [] finN = some v) : NN fn.laws_eqPatch [a0, a1] = some v := nω_of (by kernel_rfl) ((run_eq k a0 a1 [] finN).trans e)
end S.laws_eqPatch
/-! laws_eqChangeS -/
namespace S.laws_eqChangeS
noncomputable def c0 : Code := bodyOf Tryd.f160
noncomputable def c1 : Code := cR c0
noncomputable def c2 : Code := cR c1
noncomputable def c3 : Code := cR c2
@[simp] def n3 {R : Type} (k : Nat) (G : KT1 R) (h : Heap) : Option R := G .ret (.bool true) h
theorem n3_eq (G : KT1 R) (σ : GS) (h : Heap) : KC k 27 c3 σ h (fun x σ h => G x (σ 4) h) = n3 k G h := by kernel_rfl
noncomputable def c4 : Code := cL c2
noncomputable def c5 : Code := cR c4
noncomputable def c6 : Code := cL c5
noncomputable def c7 : Code := cL c6
noncomputable def c8 : Code := cR c7
noncomputable def c9 : Code := cR c8
@[simp] def n9 {R : Type} (k : Nat) (G : KT4 R) (v0 v1 v4 v5 : GV) (h : Heap) : Option R := (kbin .add v5 (.int .i64 1)).bind fun v16 => G .nrm v0 v1 v4 v16 h
theorem n9_eq (G : KT4 R) (σ : GS) (h : Heap) : KC k 27 c9 σ h (fun x σ h => G x (σ 0) (σ 1) (σ 4) (σ 5) h) = n9 k G (σ 0) (σ 1) (σ 4) (σ 5) h := by kernel_rfl
noncomputable def c10 : Code := cL c8
noncomputable def c11 : Code := cL c10
@[simp] def n11 {R : Type} (k : Nat) (G : KT4 R) (v0 v1 v4 v5 : GV) (h : Heap) : Option R := (kia 3 v0 v5).bind fun v19 => (kloadA 3 h v19).bind fun v20 => (kia 3 v1 v5).bind fun v23 => (kloadA 3 h v23).bind fun v24 => (kN NN fn.laws_eqChange [v20, v24] h).bind fun v25 => (kun .not v25).bind fun v26 => kcond v26 (G .ret v0 v1 (.bool false) v5 h) (G .nrm v0 v1 v4 v5 h)
theorem n11_eq (G : KT4 R) (σ : GS) (h : Heap) : KC k 27 c11 σ h (fun x σ h => G x (σ 0) (σ 1) (σ 4) (σ 5) h) = n11 k G (σ 0) (σ 1) (σ 4) (σ 5) h := by kernel_rfl
@[simp] def n10 (G : KT4 R) (v0 v1 v4 v5 : GV) (h : Heap) : Option R := n11 k (fun x v0 v1 v4 v5 h => kb 1 x fun x => G x v0 v1 v4 v5 h) v0 v1 v4 v5 h
theorem n10_eq (G : KT4 R) (σ : GS) (h : Heap) : KC k 27 c10 σ h (fun x σ h => G x (σ 0) (σ 1) (σ 4) (σ 5) h) = n10 k G (σ 0) (σ 1) (σ 4) (σ 5) h := (kblock_eq (a := c11) rfl).trans (n11_eq k (fun x v0 v1 v4 v5 h => kb 1 x fun x => G x v0 v1 v4 v5 h) σ h)
@[simp] def n8 (G : KT4 R) (v0 v1 v4 v5 : GV) (h : Heap) : Option R := n10 k (fun x v0 v1 v4 v5 h => kx x (n9 k G v0 v1 v4 v5 h) (G x v0 v1 v4 v5 h)) v0 v1 v4 v5 h
theorem n8_eq (G : KT4 R) (σ : GS) (h : Heap) : KC k 27 c8 σ h (fun x σ h => G x (σ 0) (σ 1) (σ 4) (σ 5) h) = n8 k G (σ 0) (σ 1) (σ 4) (σ 5) h := (kseq (b := c9) rfl (fun σ h => n9_eq k G σ h)).trans (n10_eq k (fun x v0 v1 v4 v5 h => kx x (n9 k G v0 v1 v4 v5 h) (G x v0 v1 v4 v5 h)) σ h)
noncomputable def c12 : Code := cL c7
@[simp] def n7 (G : KT4 R) (v0 v1 v4 v5 : GV) (h : Heap) : Option R := (klen v0).bind fun v13 => (kbin .lss v5 v13).bind fun v14 => kcond v14 (n8 k G v0 v1 v4 v5 h) (G (.ext 0) v0 v1 v4 v5 h)
theorem n7_eq (G : KT4 R) (σ : GS) (h : Heap) : KC k 27 c7 σ h (fun x σ h => G x (σ 0) (σ 1) (σ 4) (σ 5) h) = n7 k G (σ 0) (σ 1) (σ 4) (σ 5) h := (kseq (a := c12) (b := c8) rfl (fun σ h => n8_eq k G σ h)).trans (by kernel_rfl)
def l6 {R : Type} (k : Nat) (G : KT1 R) : Nat → GV → GV → GV → GV → Heap → Option R
  | 0, _, _, _, _, _ => none
  | r + 1, v0, v1, v4, v5, h => n7 k (fun x v0 v1 v4 v5 h => kx x (l6 k G r v0 v1 v4 v5 h) (G x v4 h)) v0 v1 v4 v5 h
theorem l6_eq {R : Type} (k : Nat) (G : KT1 R) : ∀ (r : Nat) (σ : GS) (h : Heap), kloop (fun σ h K => KC k 27 c7 σ h K) r σ h (fun x σ h => G x (σ 4) h) = l6 k G r (σ 0) (σ 1) (σ 4) (σ 5) h
  | 0, _, _ => rfl
  | r + 1, σ, h => (kloop_eq (fun σ h => l6_eq k G r σ h)).trans (n7_eq k (fun x v0 v1 v4 v5 h => kx x (l6 k G r v0 v1 v4 v5 h) (G x v4 h)) σ h)
@[simp] def n6 (G : KT1 R) (v0 v1 v4 v5 : GV) (h : Heap) : Option R := l6 k G k v0 v1 v4 v5 h
theorem n6_eq (G : KT1 R) (σ : GS) (h : Heap) : KC k 27 c6 σ h (fun x σ h => G x (σ 4) h) = n6 k G (σ 0) (σ 1) (σ 4) (σ 5) h := (kloopc_eq (a := c7) rfl).trans (l6_eq k G k σ h)
@[simp] def n5 (G : KT1 R) (v0 v1 v4 v5 : GV) (h : Heap) : Option R := n6 k (fun x v4 h => kb 0 x fun x => G x v4 h) v0 v1 v4 v5 h
theorem n5_eq (G : KT1 R) (σ : GS) (h : Heap) : KC k 27 c5 σ h (fun x σ h => G x (σ 4) h) = n5 k G (σ 0) (σ 1) (σ 4) (σ 5) h := (kblock_eq (a := c6) rfl).trans (n6_eq k (fun x v4 h => kb 0 x fun x => G x v4 h) σ h)
noncomputable def c13 : Code := cL c4
@[simp] def n4 (G : KT1 R) (v0 v1 v4 : GV) (h : Heap) : Option R := n5 k G v0 v1 v4 (.int .i64 0) h
theorem n4_eq (G : KT1 R) (σ : GS) (h : Heap) : KC k 27 c4 σ h (fun x σ h => G x (σ 4) h) = n4 k G (σ 0) (σ 1) (σ 4) h := (kseq (a := c13) (b := c5) rfl (fun σ h => n5_eq k G σ h)).trans (by kernel_rfl)
@[simp] def n2 (G : KT1 R) (v0 v1 v4 : GV) (h : Heap) : Option R := n4 k (fun x v4 h => kx x (n3 k G h) (G x v4 h)) v0 v1 v4 h
theorem n2_eq (G : KT1 R) (σ : GS) (h : Heap) : KC k 27 c2 σ h (fun x σ h => G x (σ 4) h) = n2 k G (σ 0) (σ 1) (σ 4) h := (kseq (b := c3) rfl (fun σ h => n3_eq k G σ h)).trans (n4_eq k (fun x v4 h => kx x (n3 k G h) (G x v4 h)) σ h)
noncomputable def c14 : Code := cL c1
@[simp] def n1 (G : KT1 R) (v0 v1 v4 : GV) (h : Heap) : Option R := (klen v0).bind fun v7 => (klen v1).bind fun v9 => (kbin .neq v7 v9).bind fun v10 => kcond v10 (G .ret (.bool false) h) (n2 k G v0 v1 v4 h)
theorem n1_eq (G : KT1 R) (σ : GS) (h : Heap) : KC k 27 c1 σ h (fun x σ h => G x (σ 4) h) = n1 k G (σ 0) (σ 1) (σ 4) h := (kseq (a := c14) (b := c2) rfl (fun σ h => n2_eq k G σ h)).trans (by kernel_rfl)
noncomputable def c15 : Code := cL c0
@[simp] def n0 (G : KT1 R) (v0 v1 : GV) (h : Heap) : Option R := n1 k G v0 v1 (.bool false) h
theorem n0_eq (G : KT1 R) (σ : GS) (h : Heap) : KC k 27 c0 σ h (fun x σ h => G x (σ 4) h) = n0 k G (σ 0) (σ 1) h := (kseq (a := c15) (b := c1) rfl (fun σ h => n1_eq k G σ h)).trans (by kernel_rfl)
def run {R : Type} (k : Nat) (a0 : GV) (a1 : GV) (h : Heap) (fin : GV → Heap → Option R) : Option R := n0 k (fun x v4 h => kend x (fin v4 h)) a0 a1 h
theorem run_eq {R : Type} (k : Nat) (a0 : GV) (a1 : GV) (h : Heap) (fin : GV → Heap → Option R) : kfun PP cfg NN HH k fn.laws_eqChangeS [a0, a1] h fin = run k a0 a1 h fin := (kfun_eq (nt := 27) (c := c0) (show PP.funcs[fn.laws_eqChangeS]? = some Tryd.f160 by kernel_rfl) (by kernel_rfl) (by kernel_rfl) (fun x σ h => by cases x <;> kernel_rfl)).trans (n0_eq k (fun x v4 h => kend x (fin v4 h)) _ h)
theorem gives {k : Nat} {a0 : GV} {a1 : GV} {v : GV} (e : run k a0 a1 [] finN = some v) : NN fn.laws_eqChangeS [a0, a1] = some v := nω_of (by kernel_rfl) ((run_eq k a0 a1 [] finN).trans e)
end S.laws_eqChangeS
/-! laws_eqChange -/
namespace S.laws_eqChange
noncomputable def c0 : Code := bodyOf Tryd.f200
@[simp] def n0 {R : Type} (k : Nat) (G : KT1 R) (v0 v1 : GV) (h : Heap) : Option R := kbox v0 h fun v2 h => kbox v1 h fun v3 h => (kfa 0 v2).bind fun v5 => (kload1 h v5).bind fun v6 => (kfa 0 v3).bind fun v7 => (kload1 h v7).bind fun v8 => (kbin .neq v6 v8).bind fun v9 => kcond v9 (G .ret (.bool false) h) ((kfa 1 v2).bind fun v10 => (kload1 h v10).bind fun v11 => (kfa 1 v3).bind fun v12 => (kload1 h v12).bind fun v13 => (kbin .neq v11 v13).bind fun v14 => kcond v14 (G .ret (.bool false) h) ((kfa 2 v2).bind fun v15 => (kload1 h v15).bind fun v16 => (kfa 2 v3).bind fun v17 => (kload1 h v17).bind fun v18 => (kN NN fn.laws_eqCellS [v16, v18] h).bind fun v19 => (kun .not v19).bind fun v20 => kcond v20 (G .ret (.bool false) h) (G .ret (.bool true) h)))
theorem n0_eq (G : KT1 R) (σ : GS) (h : Heap) : KC k 21 c0 σ h (fun x σ h => G x (σ 4) h) = n0 k G (σ 0) (σ 1) h := by kernel_rfl
def run {R : Type} (k : Nat) (a0 : GV) (a1 : GV) (h : Heap) (fin : GV → Heap → Option R) : Option R := n0 k (fun x v4 h => kend x (fin v4 h)) a0 a1 h
theorem run_eq {R : Type} (k : Nat) (a0 : GV) (a1 : GV) (h : Heap) (fin : GV → Heap → Option R) : kfun PP cfg NN HH k fn.laws_eqChange [a0, a1] h fin = run k a0 a1 h fin := (kfun_eq (nt := 21) (c := c0) (show PP.funcs[fn.laws_eqChange]? = some Tryd.f200 by kernel_rfl) (by kernel_rfl) (by kernel_rfl) (fun x σ h => by cases x <;> kernel_rfl)).trans (n0_eq k (fun x v4 h => kend x (fin v4 h)) _ h)
theorem gives {k : Nat} {a0 : GV} {a1 : GV} {v : GV} (e : run k a0 a1 [] finN = some v) : NN fn.laws_eqChange [a0, a1] = some v := nω_of (by kernel_rfl) ((run_eq k a0 a1 [] finN).trans e)
end S.laws_eqChange
/-! laws_eqCellS -/
namespace S.laws_eqCellS
noncomputable def c0 : Code := bodyOf Tryd.f211
noncomputable def c1 : Code := cR c0
noncomputable def c2 : Code := cR c1
noncomputable def c3 : Code := cR c2
@[simp] def n3 {R : Type} (k : Nat) (G : KT1 R) (h : Heap) : Option R := G .ret (.bool true) h
theorem n3_eq (G : KT1 R) (σ : GS) (h : Heap) : KC k 27 c3 σ h (fun x σ h => G x (σ 4) h) = n3 k G h := by kernel_rfl
noncomputable def c4 : Code := cL c2
noncomputable def c5 : Code := cR c4
noncomputable def c6 : Code := cL c5
noncomputable def c7 : Code := cL c6
noncomputable def c8 : Code := cR c7
noncomputable def c9 : Code := cR c8
@[simp] def n9 {R : Type} (k : Nat) (G : KT4 R) (v0 v1 v4 v5 : GV) (h : Heap) : Option R := (kbin .add v5 (.int .i64 1)).bind fun v16 => G .nrm v0 v1 v4 v16 h
theorem n9_eq (G : KT4 R) (σ : GS) (h : Heap) : KC k 27 c9 σ h (fun x σ h => G x (σ 0) (σ 1) (σ 4) (σ 5) h) = n9 k G (σ 0) (σ 1) (σ 4) (σ 5) h := by kernel_rfl
noncomputable def c10 : Code := cL c8
noncomputable def c11 : Code := cL c10
@[simp] def n11 {R : Type} (k : Nat) (G : KT4 R) (v0 v1 v4 v5 : GV) (h : Heap) : Option R := (kia 7 v0 v5).bind fun v19 => (kloadA 7 h v19).bind fun v20 => (kia 7 v1 v5).bind fun v23 => (kloadA 7 h v23).bind fun v24 => (kN NN fn.laws_eqCell [v20, v24] h).bind fun v25 => (kun .not v25).bind fun v26 => kcond v26 (G .ret v0 v1 (.bool false) v5 h) (G .nrm v0 v1 v4 v5 h)
theorem n11_eq (G : KT4 R) (σ : GS) (h : Heap) : KC k 27 c11 σ h (fun x σ h => G x (σ 0) (σ 1) (σ 4) (σ 5) h) = n11 k G (σ 0) (σ 1) (σ 4) (σ 5) h := by kernel_rfl
@[simp] def n10 (G : KT4 R) (v0 v1 v4 v5 : GV) (h : Heap) : Option R := n11 k (fun x v0 v1 v4 v5 h => kb 1 x fun x => G x v0 v1 v4 v5 h) v0 v1 v4 v5 h
theorem n10_eq (G : KT4 R) (σ : GS) (h : Heap) : KC k 27 c10 σ h (fun x σ h => G x (σ 0) (σ 1) (σ 4) (σ 5) h) = n10 k G (σ 0) (σ 1) (σ 4) (σ 5) h := (kblock_eq (a := c11) rfl).trans (n11_eq k (fun x v0 v1 v4 v5 h => kb 1 x fun x => G x v0 v1 v4 v5 h) σ h)
@[simp] def n8 (G : KT4 R) (v0 v1 v4 v5 : GV) (h : Heap) : Option R := n10 k (fun x v0 v1 v4 v5 h => kx x (n9 k G v0 v1 v4 v5 h) (G x v0 v1 v4 v5 h)) v0 v1 v4 v5 h
theorem n8_eq (G : KT4 R) (σ : GS) (h : Heap) : KC k 27 c8 σ h (fun x σ h => G x (σ 0) (σ 1) (σ 4) (σ 5) h) = n8 k G (σ 0) (σ 1) (σ 4) (σ 5) h := (kseq (b := c9) rfl (fun σ h => n9_eq k G σ h)).trans (n10_eq k (fun x v0 v1 v4 v5 h => kx x (n9 k G v0 v1 v4 v5 h) (G x v0 v1 v4 v5 h)) σ h)
noncomputable def c12 : Code := cL c7
@[simp] def n7 (G : KT4 R) (v0 v1 v4 v5 : GV) (h : Heap) : Option R := (klen v0).bind fun v13 => (kbin .lss v5 v13).bind fun v14 => kcond v14 (n8 k G v0 v1 v4 v5 h) (G (.ext 0) v0 v1 v4 v5 h)
theorem n7_eq (G : KT4 R) (σ : GS) (h : Heap) : KC k 27 c7 σ h (fun x σ h => G x (σ 0) (σ 1) (σ 4) (σ 5) h) = n7 k G (σ 0) (σ 1) (σ 4) (σ 5) h := (kseq (a := c12) (b := c8) rfl (fun σ h => n8_eq k G σ h)).trans (by kernel_rfl)
def l6 {R : Type} (k : Nat) (G : KT1 R) : Nat → GV → GV → GV → GV → Heap → Option R
  | 0, _, _, _, _, _ => none
  | r + 1, v0, v1, v4, v5, h => n7 k (fun x v0 v1 v4 v5 h => kx x (l6 k G r v0 v1 v4 v5 h) (G x v4 h)) v0 v1 v4 v5 h
theorem l6_eq {R : Type} (k : Nat) (G : KT1 R) : ∀ (r : Nat) (σ : GS) (h : Heap), kloop (fun σ h K => KC k 27 c7 σ h K) r σ h (fun x σ h => G x (σ 4) h) = l6 k G r (σ 0) (σ 1) (σ 4) (σ 5) h
  | 0, _, _ => rfl
  | r + 1, σ, h => (kloop_eq (fun σ h => l6_eq k G r σ h)).trans (n7_eq k (fun x v0 v1 v4 v5 h => kx x (l6 k G r v0 v1 v4 v5 h) (G x v4 h)) σ h)
@[simp] def n6 (G : KT1 R) (v0 v1 v4 v5 : GV) (h : Heap) : Option R := l6 k G k v0 v1 v4 v5 h
theorem n6_eq (G : KT1 R) (σ : GS) (h : Heap) : KC k 27 c6 σ h (fun x σ h => G x (σ 4) h) = n6 k G (σ 0) (σ 1) (σ 4) (σ 5) h := (kloopc_eq (a := c7) rfl).trans (l6_eq k G k σ h)
@[simp] def n5 (G : KT1 R) (v0 v1 v4 v5 : GV) (h : Heap) : Option R := n6 k (fun x v4 h => kb 0 x fun x => G x v4 h) v0 v1 v4 v5 h
theorem n5_eq (G : KT1 R) (σ : GS) (h : Heap) : KC k 27 c5 σ h (fun x σ h => G x (σ 4) h) = n5 k G (σ 0) (σ 1) (σ 4) (σ 5) h := (kblock_eq (a := c6) rfl).trans (n6_eq k (fun x v4 h => kb 0 x fun x => G x v4 h) σ h)
noncomputable def c13 : Code := cL c4
@[simp] def n4 (G : KT1 R) (v0 v1 v4 : GV) (h : Heap) : Option R := n5 k G v0 v1 v4 (.int .i64 0) h
theorem n4_eq (G : KT1 R) (σ : GS) (h : Heap) : KC k 27 c4 σ h (fun x σ h => G x (σ 4) h) = n4 k G (σ 0) (σ 1) (σ 4) h := (kseq (a := c13) (b := c5) rfl (fun σ h => n5_eq k G σ h)).trans (by kernel_rfl)
@[simp] def n2 (G : KT1 R) (v0 v1 v4 : GV) (h : Heap) : Option R := n4 k (fun x v4 h => kx x (n3 k G h) (G x v4 h)) v0 v1 v4 h
theorem n2_eq (G : KT1 R) (σ : GS) (h : Heap) : KC k 27 c2 σ h (fun x σ h => G x (σ 4) h) = n2 k G (σ 0) (σ 1) (σ 4) h := (kseq (b := c3) rfl (fun σ h => n3_eq k G σ h)).trans (n4_eq k (fun x v4 h => kx x (n3 k G h) (G x v4 h)) σ h)
noncomputable def c14 : Code := cL c1
@[simp] def n1 (G : KT1 R) (v0 v1 v4 : GV) (h : Heap) : Option R := (klen v0).bind fun v7 => (klen v1).bind fun v9 => (kbin .neq v7 v9).bind fun v10 => kcond v10 (G .ret (.bool false) h) (n2 k G v0 v1 v4 h)
theorem n1_eq (G : KT1 R) (σ : GS) (h : Heap) : KC k 27 c1 σ h (fun x σ h => G x (σ 4) h) = n1 k G (σ 0) (σ 1) (σ 4) h := (kseq (a := c14) (b := c2) rfl (fun σ h => n2_eq k G σ h)).trans (by kernel_rfl)
noncomputable def c15 : Code := cL c0
@[simp] def n0 (G : KT1 R) (v0 v1 : GV) (h : Heap) : Option R := n1 k G v0 v1 (.bool false) h
theorem n0_eq (G : KT1 R) (σ : GS) (h : Heap) : KC k 27 c0 σ h (fun x σ h => G x (σ 4) h) = n0 k G (σ 0) (σ 1) h := (kseq (a := c15) (b := c1) rfl (fun σ h => n1_eq k G σ h)).trans (by kernel_rfl)
def run {R : Type} (k : Nat) (a0 : GV) (a1 : GV) (h : Heap) (fin : GV → Heap → Option R) : Option R := n0 k (fun x v4 h => kend x (fin v4 h)) a0 a1 h
theorem run_eq {R : Type} (k : Nat) (a0 : GV) (a1 : GV) (h : Heap) (fin : GV → Heap → Option R) : kfun PP cfg NN HH k fn.laws_eqCellS [a0, a1] h fin = run k a0 a1 h fin := (kfun_eq (nt := 27) (c := c0) (show PP.funcs[fn.laws_eqCellS]? = some Tryd.f211 by kernel_rfl) (by kernel_rfl) (by kernel_rfl) (fun x σ h => by cases x <;> kernel_rfl)).trans (n0_eq k (fun x v4 h => kend x (fin v4 h)) _ h)
theorem gives {k : Nat} {a0 : GV} {a1 : GV} {v : GV} (e : run k a0 a1 [] finN = some v) : NN fn.laws_eqCellS [a0, a1] = some v := nω_of (by kernel_rfl) ((run_eq k a0 a1 [] finN).trans e)
end S.laws_eqCellS
/-! laws_eqCell -/
namespace S.laws_eqCell
noncomputable def c0 : Code := bodyOf Tryd.f234
@[simp] def n0 {R : Type} (k : Nat) (G : KT1 R) (v0 v1 : GV) (h : Heap) : Option R := kbox v0 h fun v2 h => kbox v1 h fun v3 h => (kfa 0 v2).bind fun v5 => (kload1 h v5).bind fun v6 => (kfa 0 v3).bind fun v7 => (kload1 h v7).bind fun v8 => (kbin .neq v6 v8).bind fun v9 => kcond v9 (G .ret (.bool false) h) ((kfa 1 v2).bind fun v10 => (kloadA 5 h v10).bind fun v11 => (kfa 1 v3).bind fun v12 => (kloadA 5 h v12).bind fun v13 => (kN NN fn.laws_eqStyle [v11, v13] h).bind fun v14 => (kun .not v14).bind fun v15 => kcond v15 (G .ret (.bool false) h) ((kfa 6 v2).bind fun v16 => (kload1 h v16).bind fun v17 => (kfa 6 v3).bind fun v18 => (kload1 h v18).bind fun v19 => (kbin .neq v17 v19).bind fun v20 => kcond v20 (G .ret (.bool false) h) (G .ret (.bool true) h)))
theorem n0_eq (G : KT1 R) (σ : GS) (h : Heap) : KC k 21 c0 σ h (fun x σ h => G x (σ 4) h) = n0 k G (σ 0) (σ 1) h := by kernel_rfl
def run {R : Type} (k : Nat) (a0 : GV) (a1 : GV) (h : Heap) (fin : GV → Heap → Option R) : Option R := n0 k (fun x v4 h => kend x (fin v4 h)) a0 a1 h
theorem run_eq {R : Type} (k : Nat) (a0 : GV) (a1 : GV) (h : Heap) (fin : GV → Heap → Option R) : kfun PP cfg NN HH k fn.laws_eqCell [a0, a1] h fin = run k a0 a1 h fin := (kfun_eq (nt := 21) (c := c0) (show PP.funcs[fn.laws_eqCell]? = some Tryd.f234 by kernel_rfl) (by kernel_rfl) (by kernel_rfl) (fun x σ h => by cases x <;> kernel_rfl)).trans (n0_eq k (fun x v4 h => kend x (fin v4 h)) _ h)
theorem gives {k : Nat} {a0 : GV} {a1 : GV} {v : GV} (e : run k a0 a1 [] finN = some v) : NN fn.laws_eqCell [a0, a1] = some v := nω_of (by kernel_rfl) ((run_eq k a0 a1 [] finN).trans e)
end S.laws_eqCell
/-! laws_eqStyle -/
namespace S.laws_eqStyle
noncomputable def c0 : Code := bodyOf Tryd.f135
@[simp] def n0 {R : Type} (k : Nat) (G : KT1 R) (v0 v1 : GV) (h : Heap) : Option R := kbox v0 h fun v2 h => kbox v1 h fun v3 h => (kfa 0 v2).bind fun v5 => (kload1 h v5).bind fun v6 => (kfa 0 v3).bind fun v7 => (kload1 h v7).bind fun v8 => (kbin .neq v6 v8).bind fun v9 => kcond v9 (G .ret (.bool false) h) ((kfa 1 v2).bind fun v10 => (kload1 h v10).bind fun v11 => (kfa 1 v3).bind fun v12 => (kload1 h v12).bind fun v13 => (kbin .neq v11 v13).bind fun v14 => kcond v14 (G .ret (.bool false) h) ((kfa 2 v2).bind fun v15 => (kload1 h v15).bind fun v16 => (kfa 2 v3).bind fun v17 => (kload1 h v17).bind fun v18 => (keqB .neq v16 v18).bind fun v19 => kcond v19 (G .ret (.bool false) h) ((kfa 3 v2).bind fun v20 => (kload1 h v20).bind fun v21 => (kfa 3 v3).bind fun v22 => (kload1 h v22).bind fun v23 => (keqB .neq v21 v23).bind fun v24 => kcond v24 (G .ret (.bool false) h) ((kfa 4 v2).bind fun v25 => (kload1 h v25).bind fun v26 => (kfa 4 v3).bind fun v27 => (kload1 h v27).bind fun v28 => (keqB .neq v26 v28).bind fun v29 => kcond v29 (G .ret (.bool false) h) (G .ret (.bool true) h)))))
theorem n0_eq (G : KT1 R) (σ : GS) (h : Heap) : KC k 30 c0 σ h (fun x σ h => G x (σ 4) h) = n0 k G (σ 0) (σ 1) h := by kernel_rfl
def run {R : Type} (k : Nat) (a0 : GV) (a1 : GV) (h : Heap) (fin : GV → Heap → Option R) : Option R := n0 k (fun x v4 h => kend x (fin v4 h)) a0 a1 h
theorem run_eq {R : Type} (k : Nat) (a0 : GV) (a1 : GV) (h : Heap) (fin : GV → Heap → Option R) : kfun PP cfg NN HH k fn.laws_eqStyle [a0, a1] h fin = run k a0 a1 h fin := (kfun_eq (nt := 30) (c := c0) (show PP.funcs[fn.laws_eqStyle]? = some Tryd.f135 by kernel_rfl) (by kernel_rfl) (by kernel_rfl) (fun x σ h => by cases x <;> kernel_rfl)).trans (n0_eq k (fun x v4 h => kend x (fin v4 h)) _ h)
theorem gives {k : Nat} {a0 : GV} {a1 : GV} {v : GV} (e : run k a0 a1 [] finN = some v) : NN fn.laws_eqStyle [a0, a1] = some v := nω_of (by kernel_rfl) ((run_eq k a0 a1 [] finN).trans e)
end S.laws_eqStyle
end
end Go.Proofs.YtklhdbkaejbajaaDoor.G
