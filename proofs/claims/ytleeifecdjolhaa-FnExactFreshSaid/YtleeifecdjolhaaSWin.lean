/- What these functions do, told for open values, out of the machine with continuations. Printed by a program of this session. -/
import Derived.Test.YtleeifecdjolhaaCfg
import Derived.KernelRfl
namespace Go.Proofs.Ytleeifecdjolhaa.G
open Go.RowKit
set_option linter.unusedVariables false
set_option maxRecDepth 100000
noncomputable section
/-! laws_szInt64S -/
namespace S.laws_szInt64S
noncomputable def c0 : Code := bodyOf Try.f53
@[simp] def n0 {R : Type} (k : Nat) (G : GX → GV → Heap → Option R) (v0 : GV) (v1 : GV) (h : Heap) : Option R := (klen v0).bind fun v7 => (kbin .sub v1 v7).bind fun v8 => (kbin .lss v8 (.int .i64 0)).bind fun v10 => kcond v10 (G .ret (.int .i64 (-1)) h) (G .ret v8 h)
theorem n0_eq {R : Type} (k : Nat) (G : GX → GV → Heap → Option R) (σ : GS) (h : Heap) : KC k 12 c0 σ h (fun x σ h => G x (σ 4) h) = n0 k G (σ 0) (σ 1) h := by kernel_rfl
def run {R : Type} (k : Nat) (a0 : GV) (a1 : GV) (h : Heap) (fin : GV → Heap → Option R) : Option R := n0 k (fun x v4 h => kend x (fin v4 h)) a0 a1 h
theorem run_eq {R : Type} (k : Nat) (a0 : GV) (a1 : GV) (h : Heap) (fin : GV → Heap → Option R) : kfun PP cfg NN HH k fn.laws_szInt64S [a0, a1] h fin = run k a0 a1 h fin := (kfun_eq (nt := 12) (c := c0) (show PP.funcs[fn.laws_szInt64S]? = some Try.f53 by kernel_rfl) (by kernel_rfl) (by kernel_rfl) (fun x σ h => by cases x <;> kernel_rfl)).trans (n0_eq k (fun x v4 h => kend x (fin v4 h)) _ h)
theorem gives {k : Nat} {a0 : GV} {a1 : GV} {v : GV} (e : run k a0 a1 [] finN = some v) : NN fn.laws_szInt64S [a0, a1] = some v := nω_of (by kernel_rfl) ((run_eq k a0 a1 [] finN).trans e)
end S.laws_szInt64S
/-! laws_szWindow -/
namespace S.laws_szWindow
noncomputable def c0 : Code := bodyOf Try.f20
@[simp] def n0 {R : Type} (k : Nat) (G : GX → GV → Heap → Option R) (v0 : GV) (v1 : GV) (h : Heap) : Option R := kbox v0 h fun v2 h => (kfa 1 v2).bind fun v5 => (kload1 h v5).bind fun v6 => (kN NN fn.laws_szInt64S [v6, v1] h).bind fun v8 => (kbin .lss v8 (.int .i64 0)).bind fun v10 => kcond v10 (G .ret (.int .i64 (-1)) h) (G .ret v8 h)
theorem n0_eq {R : Type} (k : Nat) (G : GX → GV → Heap → Option R) (σ : GS) (h : Heap) : KC k 12 c0 σ h (fun x σ h => G x (σ 4) h) = n0 k G (σ 0) (σ 1) h := by kernel_rfl
def run {R : Type} (k : Nat) (a0 : GV) (a1 : GV) (h : Heap) (fin : GV → Heap → Option R) : Option R := n0 k (fun x v4 h => kend x (fin v4 h)) a0 a1 h
theorem run_eq {R : Type} (k : Nat) (a0 : GV) (a1 : GV) (h : Heap) (fin : GV → Heap → Option R) : kfun PP cfg NN HH k fn.laws_szWindow [a0, a1] h fin = run k a0 a1 h fin := (kfun_eq (nt := 12) (c := c0) (show PP.funcs[fn.laws_szWindow]? = some Try.f20 by kernel_rfl) (by kernel_rfl) (by kernel_rfl) (fun x σ h => by cases x <;> kernel_rfl)).trans (n0_eq k (fun x v4 h => kend x (fin v4 h)) _ h)
theorem gives {k : Nat} {a0 : GV} {a1 : GV} {v : GV} (e : run k a0 a1 [] finN = some v) : NN fn.laws_szWindow [a0, a1] = some v := nω_of (by kernel_rfl) ((run_eq k a0 a1 [] finN).trans e)
end S.laws_szWindow
/-! spec_l1In -/
namespace S.spec_l1In
noncomputable def c0 : Code := bodyOf Try.f50
noncomputable def c1 : Code := cR c0
noncomputable def c2 : Code := cR c1
@[simp] def n2 {R : Type} (k : Nat) (G : GX → GV → Heap → Option R) (v6 : GV) (h : Heap) : Option R := G .ret v6 h
theorem n2_eq {R : Type} (k : Nat) (G : GX → GV → Heap → Option R) (σ : GS) (h : Heap) : KC k 15 c2 σ h (fun x σ h => G x (σ 6) h) = n2 k G (σ 6) h := by kernel_rfl
noncomputable def c3 : Code := cL c1
noncomputable def o3 : Array Oper := cO c3
@[simp] def g3_2 {R : Type} (k : Nat) (G : GX → GV → Heap → Option R) (v10 : GV) (v13 : GV) (h : Heap) : Option R := (kpick v10 v13 (.bool false)).bind fun v14 => G .nrm v14 h
theorem g3_2_eq {R : Type} (k : Nat) (G : GX → GV → Heap → Option R) (σ : GS) (h : Heap) : kgroups PP cfg NN HH 15 o3 [(none, [7, 8])] σ h (fun σ h => G .nrm (σ 6) h) = g3_2 k G (σ 10) (σ 13) h := by kernel_rfl
@[simp] def g3_1 {R : Type} (k : Nat) (G : GX → GV → Heap → Option R) (v0 : GV) (v2 : GV) (v10 : GV) (h : Heap) : Option R := bif tr true v10 then (kbin .leq v0 v2).bind fun v13 => g3_2 k G v10 v13 h else g3_2 k G v10 .un h
theorem g3_1_eq0 {R : Type} (k : Nat) (G : GX → GV → Heap → Option R) (σ : GS) (h : Heap) : kgroup1 PP cfg NN HH 15 o3 (some (3, true), [4, 5, 6]) σ h (fun σ h => g3_2 k G (σ 10) (σ 13) h) = g3_1 k G (σ 0) (σ 2) (σ 10) h := by kernel_rfl
theorem g3_1_eq {R : Type} (k : Nat) (G : GX → GV → Heap → Option R) (σ : GS) (h : Heap) : kgroups PP cfg NN HH 15 o3 [(some (3, true), [4, 5, 6]), (none, [7, 8])] σ h (fun σ h => G .nrm (σ 6) h) = g3_1 k G (σ 0) (σ 2) (σ 10) h := (kgroups_cons (fun σ h => g3_2_eq k G σ h)).trans (g3_1_eq0 k G σ h)
@[simp] def g3_0 {R : Type} (k : Nat) (G : GX → GV → Heap → Option R) (v0 : GV) (v1 : GV) (v2 : GV) (h : Heap) : Option R := (kbin .geq v0 v1).bind fun v9 => g3_1 k G v0 v2 v9 h
theorem g3_0_eq0 {R : Type} (k : Nat) (G : GX → GV → Heap → Option R) (σ : GS) (h : Heap) : kgroup1 PP cfg NN HH 15 o3 (none, [0, 1, 2, 3]) σ h (fun σ h => g3_1 k G (σ 0) (σ 2) (σ 10) h) = g3_0 k G (σ 0) (σ 1) (σ 2) h := by kernel_rfl
theorem g3_0_eq {R : Type} (k : Nat) (G : GX → GV → Heap → Option R) (σ : GS) (h : Heap) : kgroups PP cfg NN HH 15 o3 [(none, [0, 1, 2, 3]), (some (3, true), [4, 5, 6]), (none, [7, 8])] σ h (fun σ h => G .nrm (σ 6) h) = g3_0 k G (σ 0) (σ 1) (σ 2) h := (kgroups_cons (fun σ h => g3_1_eq k G σ h)).trans (g3_0_eq0 k G σ h)
@[simp] def n3 {R : Type} (k : Nat) (G : GX → GV → Heap → Option R) (v0 : GV) (v1 : GV) (v2 : GV) (h : Heap) : Option R := g3_0 k G v0 v1 v2 h
theorem n3_eq {R : Type} (k : Nat) (G : GX → GV → Heap → Option R) (σ : GS) (h : Heap) : KC k 15 c3 σ h (fun x σ h => G x (σ 6) h) = n3 k G (σ 0) (σ 1) (σ 2) h := (kregion_eq (id := 1) (draw := false) (ops := o3) (gs := [(none, [0, 1, 2, 3]), (some (3, true), [4, 5, 6]), (none, [7, 8])]) (by kernel_rfl) (by kernel_rfl) (by kernel_rfl)).trans (g3_0_eq k G σ h)
@[simp] def n1 {R : Type} (k : Nat) (G : GX → GV → Heap → Option R) (v0 : GV) (v1 : GV) (v2 : GV) (h : Heap) : Option R := n3 k (fun x v6 h => kx x (n2 k G v6 h) (G x v6 h)) v0 v1 v2 h
theorem n1_eq {R : Type} (k : Nat) (G : GX → GV → Heap → Option R) (σ : GS) (h : Heap) : KC k 15 c1 σ h (fun x σ h => G x (σ 6) h) = n1 k G (σ 0) (σ 1) (σ 2) h := (kseq (b := c2) rfl (fun σ h => n2_eq k G σ h)).trans (n3_eq k (fun x v6 h => kx x (n2 k G v6 h) (G x v6 h)) σ h)
noncomputable def c4 : Code := cL c0
@[simp] def n0 {R : Type} (k : Nat) (G : GX → GV → Heap → Option R) (v0 : GV) (v1 : GV) (v2 : GV) (h : Heap) : Option R := n1 k G v0 v1 v2 h
theorem n0_eq0 {R : Type} (k : Nat) (G : GX → GV → Heap → Option R) (σ : GS) (h : Heap) : KC k 15 c4 σ h (fun x σ h => kx x (n1 k G (σ 0) (σ 1) (σ 2) h) (G x (σ 6) h)) = n0 k G (σ 0) (σ 1) (σ 2) h := by kernel_rfl
theorem n0_eq {R : Type} (k : Nat) (G : GX → GV → Heap → Option R) (σ : GS) (h : Heap) : KC k 15 c0 σ h (fun x σ h => G x (σ 6) h) = n0 k G (σ 0) (σ 1) (σ 2) h := (kseq (b := c1) rfl (fun σ h => n1_eq k G σ h)).trans (n0_eq0 k G σ h)
def run {R : Type} (k : Nat) (a0 : GV) (a1 : GV) (a2 : GV) (h : Heap) (fin : GV → Heap → Option R) : Option R := n0 k (fun x v6 h => kend x (fin v6 h)) a0 a1 a2 h
theorem run_eq {R : Type} (k : Nat) (a0 : GV) (a1 : GV) (a2 : GV) (h : Heap) (fin : GV → Heap → Option R) : kfun PP cfg NN HH k fn.spec_l1In [a0, a1, a2] h fin = run k a0 a1 a2 h fin := (kfun_eq (nt := 15) (c := c0) (show PP.funcs[fn.spec_l1In]? = some Try.f50 by kernel_rfl) (by kernel_rfl) (by kernel_rfl) (fun x σ h => by cases x <;> kernel_rfl)).trans (n0_eq k (fun x v6 h => kend x (fin v6 h)) _ h)
theorem gives {k : Nat} {a0 : GV} {a1 : GV} {a2 : GV} {v : GV} (e : run k a0 a1 a2 [] finN = some v) : NN fn.spec_l1In [a0, a1, a2] = some v := nω_of (by kernel_rfl) ((run_eq k a0 a1 a2 [] finN).trans e)
end S.spec_l1In
/-! impl_in -/
namespace S.impl_in
noncomputable def c0 : Code := bodyOf Try.f51
noncomputable def c1 : Code := cR c0
noncomputable def c2 : Code := cR c1
@[simp] def n2 {R : Type} (k : Nat) (G : GX → GV → Heap → Option R) (v6 : GV) (h : Heap) : Option R := G .ret v6 h
theorem n2_eq {R : Type} (k : Nat) (G : GX → GV → Heap → Option R) (σ : GS) (h : Heap) : KC k 15 c2 σ h (fun x σ h => G x (σ 6) h) = n2 k G (σ 6) h := by kernel_rfl
noncomputable def c3 : Code := cL c1
noncomputable def o3 : Array Oper := cO c3
@[simp] def g3_2 {R : Type} (k : Nat) (G : GX → GV → Heap → Option R) (v10 : GV) (v13 : GV) (h : Heap) : Option R := (kpick v10 v13 (.bool false)).bind fun v14 => G .nrm v14 h
theorem g3_2_eq {R : Type} (k : Nat) (G : GX → GV → Heap → Option R) (σ : GS) (h : Heap) : kgroups PP cfg NN HH 15 o3 [(none, [7, 8])] σ h (fun σ h => G .nrm (σ 6) h) = g3_2 k G (σ 10) (σ 13) h := by kernel_rfl
@[simp] def g3_1 {R : Type} (k : Nat) (G : GX → GV → Heap → Option R) (v0 : GV) (v2 : GV) (v10 : GV) (h : Heap) : Option R := bif tr true v10 then (kbin .leq v0 v2).bind fun v13 => g3_2 k G v10 v13 h else g3_2 k G v10 .un h
theorem g3_1_eq0 {R : Type} (k : Nat) (G : GX → GV → Heap → Option R) (σ : GS) (h : Heap) : kgroup1 PP cfg NN HH 15 o3 (some (3, true), [4, 5, 6]) σ h (fun σ h => g3_2 k G (σ 10) (σ 13) h) = g3_1 k G (σ 0) (σ 2) (σ 10) h := by kernel_rfl
theorem g3_1_eq {R : Type} (k : Nat) (G : GX → GV → Heap → Option R) (σ : GS) (h : Heap) : kgroups PP cfg NN HH 15 o3 [(some (3, true), [4, 5, 6]), (none, [7, 8])] σ h (fun σ h => G .nrm (σ 6) h) = g3_1 k G (σ 0) (σ 2) (σ 10) h := (kgroups_cons (fun σ h => g3_2_eq k G σ h)).trans (g3_1_eq0 k G σ h)
@[simp] def g3_0 {R : Type} (k : Nat) (G : GX → GV → Heap → Option R) (v0 : GV) (v1 : GV) (v2 : GV) (h : Heap) : Option R := (kbin .leq v1 v0).bind fun v9 => g3_1 k G v0 v2 v9 h
theorem g3_0_eq0 {R : Type} (k : Nat) (G : GX → GV → Heap → Option R) (σ : GS) (h : Heap) : kgroup1 PP cfg NN HH 15 o3 (none, [0, 1, 2, 3]) σ h (fun σ h => g3_1 k G (σ 0) (σ 2) (σ 10) h) = g3_0 k G (σ 0) (σ 1) (σ 2) h := by kernel_rfl
theorem g3_0_eq {R : Type} (k : Nat) (G : GX → GV → Heap → Option R) (σ : GS) (h : Heap) : kgroups PP cfg NN HH 15 o3 [(none, [0, 1, 2, 3]), (some (3, true), [4, 5, 6]), (none, [7, 8])] σ h (fun σ h => G .nrm (σ 6) h) = g3_0 k G (σ 0) (σ 1) (σ 2) h := (kgroups_cons (fun σ h => g3_1_eq k G σ h)).trans (g3_0_eq0 k G σ h)
@[simp] def n3 {R : Type} (k : Nat) (G : GX → GV → Heap → Option R) (v0 : GV) (v1 : GV) (v2 : GV) (h : Heap) : Option R := g3_0 k G v0 v1 v2 h
theorem n3_eq {R : Type} (k : Nat) (G : GX → GV → Heap → Option R) (σ : GS) (h : Heap) : KC k 15 c3 σ h (fun x σ h => G x (σ 6) h) = n3 k G (σ 0) (σ 1) (σ 2) h := (kregion_eq (id := 1) (draw := false) (ops := o3) (gs := [(none, [0, 1, 2, 3]), (some (3, true), [4, 5, 6]), (none, [7, 8])]) (by kernel_rfl) (by kernel_rfl) (by kernel_rfl)).trans (g3_0_eq k G σ h)
@[simp] def n1 {R : Type} (k : Nat) (G : GX → GV → Heap → Option R) (v0 : GV) (v1 : GV) (v2 : GV) (h : Heap) : Option R := n3 k (fun x v6 h => kx x (n2 k G v6 h) (G x v6 h)) v0 v1 v2 h
theorem n1_eq {R : Type} (k : Nat) (G : GX → GV → Heap → Option R) (σ : GS) (h : Heap) : KC k 15 c1 σ h (fun x σ h => G x (σ 6) h) = n1 k G (σ 0) (σ 1) (σ 2) h := (kseq (b := c2) rfl (fun σ h => n2_eq k G σ h)).trans (n3_eq k (fun x v6 h => kx x (n2 k G v6 h) (G x v6 h)) σ h)
noncomputable def c4 : Code := cL c0
@[simp] def n0 {R : Type} (k : Nat) (G : GX → GV → Heap → Option R) (v0 : GV) (v1 : GV) (v2 : GV) (h : Heap) : Option R := n1 k G v0 v1 v2 h
theorem n0_eq0 {R : Type} (k : Nat) (G : GX → GV → Heap → Option R) (σ : GS) (h : Heap) : KC k 15 c4 σ h (fun x σ h => kx x (n1 k G (σ 0) (σ 1) (σ 2) h) (G x (σ 6) h)) = n0 k G (σ 0) (σ 1) (σ 2) h := by kernel_rfl
theorem n0_eq {R : Type} (k : Nat) (G : GX → GV → Heap → Option R) (σ : GS) (h : Heap) : KC k 15 c0 σ h (fun x σ h => G x (σ 6) h) = n0 k G (σ 0) (σ 1) (σ 2) h := (kseq (b := c1) rfl (fun σ h => n1_eq k G σ h)).trans (n0_eq0 k G σ h)
def run {R : Type} (k : Nat) (a0 : GV) (a1 : GV) (a2 : GV) (h : Heap) (fin : GV → Heap → Option R) : Option R := n0 k (fun x v6 h => kend x (fin v6 h)) a0 a1 a2 h
theorem run_eq {R : Type} (k : Nat) (a0 : GV) (a1 : GV) (a2 : GV) (h : Heap) (fin : GV → Heap → Option R) : kfun PP cfg NN HH k fn.impl_in [a0, a1, a2] h fin = run k a0 a1 a2 h fin := (kfun_eq (nt := 15) (c := c0) (show PP.funcs[fn.impl_in]? = some Try.f51 by kernel_rfl) (by kernel_rfl) (by kernel_rfl) (fun x σ h => by cases x <;> kernel_rfl)).trans (n0_eq k (fun x v6 h => kend x (fin v6 h)) _ h)
theorem gives {k : Nat} {a0 : GV} {a1 : GV} {a2 : GV} {v : GV} (e : run k a0 a1 a2 [] finN = some v) : NN fn.impl_in [a0, a1, a2] = some v := nω_of (by kernel_rfl) ((run_eq k a0 a1 a2 [] finN).trans e)
end S.impl_in
/-! spec_l1Max -/
namespace S.spec_l1Max
noncomputable def c0 : Code := bodyOf Try.f54
@[simp] def n0 {R : Type} (k : Nat) (G : GX → GV → Heap → Option R) (v0 : GV) (v1 : GV) (h : Heap) : Option R := (kbin .gtr v0 v1).bind fun v7 => kcond v7 (G .ret v0 h) (G .ret v1 h)
theorem n0_eq {R : Type} (k : Nat) (G : GX → GV → Heap → Option R) (σ : GS) (h : Heap) : KC k 10 c0 σ h (fun x σ h => G x (σ 4) h) = n0 k G (σ 0) (σ 1) h := by kernel_rfl
def run {R : Type} (k : Nat) (a0 : GV) (a1 : GV) (h : Heap) (fin : GV → Heap → Option R) : Option R := n0 k (fun x v4 h => kend x (fin v4 h)) a0 a1 h
theorem run_eq {R : Type} (k : Nat) (a0 : GV) (a1 : GV) (h : Heap) (fin : GV → Heap → Option R) : kfun PP cfg NN HH k fn.spec_l1Max [a0, a1] h fin = run k a0 a1 h fin := (kfun_eq (nt := 10) (c := c0) (show PP.funcs[fn.spec_l1Max]? = some Try.f54 by kernel_rfl) (by kernel_rfl) (by kernel_rfl) (fun x σ h => by cases x <;> kernel_rfl)).trans (n0_eq k (fun x v4 h => kend x (fin v4 h)) _ h)
theorem gives {k : Nat} {a0 : GV} {a1 : GV} {v : GV} (e : run k a0 a1 [] finN = some v) : NN fn.spec_l1Max [a0, a1] = some v := nω_of (by kernel_rfl) ((run_eq k a0 a1 [] finN).trans e)
end S.spec_l1Max
/-! spec_WindowOk -/
namespace S.spec_WindowOk
noncomputable def c0 : Code := bodyOf Try.f21
noncomputable def c1 : Code := cR c0
noncomputable def c2 : Code := cR c1
noncomputable def c3 : Code := cR c2
noncomputable def c4 : Code := cR c3
@[simp] def n4 {R : Type} (k : Nat) (G : GX → GV → Heap → Option R) (h : Heap) : Option R := G .ret (.bool true) h
theorem n4_eq {R : Type} (k : Nat) (G : GX → GV → Heap → Option R) (σ : GS) (h : Heap) : KC k 69 c4 σ h (fun x σ h => G x (σ 2) h) = n4 k G h := by kernel_rfl
noncomputable def c5 : Code := cL c3
noncomputable def c6 : Code := cR c5
noncomputable def c7 : Code := cL c6
noncomputable def c8 : Code := cL c7
noncomputable def c9 : Code := cR c8
noncomputable def c10 : Code := cR c9
@[simp] def n10 {R : Type} (k : Nat) (G : GX → GV → GV → GV → Heap → Option R) (v1 : GV) (v2 : GV) (v3 : GV) (h : Heap) : Option R := (kbin .add v3 (.int .i64 1)).bind fun v40 => G .nrm v1 v2 v40 h
theorem n10_eq {R : Type} (k : Nat) (G : GX → GV → GV → GV → Heap → Option R) (σ : GS) (h : Heap) : KC k 69 c10 σ h (fun x σ h => G x (σ 1) (σ 2) (σ 3) h) = n10 k G (σ 1) (σ 2) (σ 3) h := by kernel_rfl
noncomputable def c11 : Code := cL c9
noncomputable def c12 : Code := cL c11
noncomputable def c13 : Code := cR c12
@[simp] def n13 {R : Type} (k : Nat) (G : GX → GV → GV → GV → Heap → Option R) (v1 : GV) (v2 : GV) (v3 : GV) (v68 : GV) (h : Heap) : Option R := kcond v68 (G .ret v1 (.bool false) v3 h) (G .nrm v1 v2 v3 h)
theorem n13_eq {R : Type} (k : Nat) (G : GX → GV → GV → GV → Heap → Option R) (σ : GS) (h : Heap) : KC k 69 c13 σ h (fun x σ h => G x (σ 1) (σ 2) (σ 3) h) = n13 k G (σ 1) (σ 2) (σ 3) (σ 68) h := by kernel_rfl
noncomputable def c14 : Code := cL c12
noncomputable def o14 : Array Oper := cO c14
@[simp] def g14_4 {R : Type} (k : Nat) (G : GX → GV → GV → GV → GV → Heap → Option R) (v1 : GV) (v2 : GV) (v3 : GV) (v51 : GV) (v67 : GV) (h : Heap) : Option R := (kpick v51 (.bool true) v67).bind fun v68 => G .nrm v1 v2 v3 v68 h
theorem g14_4_eq {R : Type} (k : Nat) (G : GX → GV → GV → GV → GV → Heap → Option R) (σ : GS) (h : Heap) : kgroups PP cfg NN HH 69 o14 [(none, [27])] σ h (fun σ h => G .nrm (σ 1) (σ 2) (σ 3) (σ 68) h) = g14_4 k G (σ 1) (σ 2) (σ 3) (σ 51) (σ 67) h := by kernel_rfl
@[simp] def g14_3 {R : Type} (k : Nat) (G : GX → GV → GV → GV → GV → Heap → Option R) (v1 : GV) (v2 : GV) (v3 : GV) (v51 : GV) (v54 : GV) (v66 : GV) (h : Heap) : Option R := bif tr false v51 then (kpick v54 v66 (.bool false)).bind fun v67 => g14_4 k G v1 v2 v3 v51 v67 h else g14_4 k G v1 v2 v3 v51 .un h
theorem g14_3_eq0 {R : Type} (k : Nat) (G : GX → GV → GV → GV → GV → Heap → Option R) (σ : GS) (h : Heap) : kgroup1 PP cfg NN HH 69 o14 (some (10, false), [26]) σ h (fun σ h => g14_4 k G (σ 1) (σ 2) (σ 3) (σ 51) (σ 67) h) = g14_3 k G (σ 1) (σ 2) (σ 3) (σ 51) (σ 54) (σ 66) h := by kernel_rfl
theorem g14_3_eq {R : Type} (k : Nat) (G : GX → GV → GV → GV → GV → Heap → Option R) (σ : GS) (h : Heap) : kgroups PP cfg NN HH 69 o14 [(some (10, false), [26]), (none, [27])] σ h (fun σ h => G .nrm (σ 1) (σ 2) (σ 3) (σ 68) h) = g14_3 k G (σ 1) (σ 2) (σ 3) (σ 51) (σ 54) (σ 66) h := (kgroups_cons (fun σ h => g14_4_eq k G σ h)).trans (g14_3_eq0 k G σ h)
@[simp] def g14_2 {R : Type} (k : Nat) (G : GX → GV → GV → GV → GV → Heap → Option R) (v1 : GV) (v2 : GV) (v3 : GV) (v51 : GV) (v54 : GV) (h : Heap) : Option R := bif tr true v54 then (kfa 1 v1).bind fun v55 => (kload1 h v55).bind fun v56 => (kia 1 v56 v3).bind fun v58 => (kload1 h v58).bind fun v59 => (kfa 1 v1).bind fun v60 => (kload1 h v60).bind fun v61 => (kbin .sub v3 (.int .i64 1)).bind fun v63 => (kia 1 v61 v63).bind fun v64 => (kload1 h v64).bind fun v65 => (kbin .leq v59 v65).bind fun v66 => g14_3 k G v1 v2 v3 v51 v54 v66 h else g14_3 k G v1 v2 v3 v51 v54 .un h
theorem g14_2_eq0 {R : Type} (k : Nat) (G : GX → GV → GV → GV → GV → Heap → Option R) (σ : GS) (h : Heap) : kgroup1 PP cfg NN HH 69 o14 (some (13, true), [14, 15, 16, 17, 18, 19, 20, 21, 22, 23, 24, 25]) σ h (fun σ h => g14_3 k G (σ 1) (σ 2) (σ 3) (σ 51) (σ 54) (σ 66) h) = g14_2 k G (σ 1) (σ 2) (σ 3) (σ 51) (σ 54) h := by kernel_rfl
theorem g14_2_eq {R : Type} (k : Nat) (G : GX → GV → GV → GV → GV → Heap → Option R) (σ : GS) (h : Heap) : kgroups PP cfg NN HH 69 o14 [(some (13, true), [14, 15, 16, 17, 18, 19, 20, 21, 22, 23, 24, 25]), (some (10, false), [26]), (none, [27])] σ h (fun σ h => G .nrm (σ 1) (σ 2) (σ 3) (σ 68) h) = g14_2 k G (σ 1) (σ 2) (σ 3) (σ 51) (σ 54) h := (kgroups_cons (fun σ h => g14_3_eq k G σ h)).trans (g14_2_eq0 k G σ h)
@[simp] def g14_1 {R : Type} (k : Nat) (G : GX → GV → GV → GV → GV → Heap → Option R) (v1 : GV) (v2 : GV) (v3 : GV) (v51 : GV) (h : Heap) : Option R := bif tr false v51 then (kbin .gtr v3 (.int .i64 0)).bind fun v53 => g14_2 k G v1 v2 v3 v51 v53 h else g14_2 k G v1 v2 v3 v51 .un h
theorem g14_1_eq0 {R : Type} (k : Nat) (G : GX → GV → GV → GV → GV → Heap → Option R) (σ : GS) (h : Heap) : kgroup1 PP cfg NN HH 69 o14 (some (10, false), [11, 12, 13]) σ h (fun σ h => g14_2 k G (σ 1) (σ 2) (σ 3) (σ 51) (σ 54) h) = g14_1 k G (σ 1) (σ 2) (σ 3) (σ 51) h := by kernel_rfl
theorem g14_1_eq {R : Type} (k : Nat) (G : GX → GV → GV → GV → GV → Heap → Option R) (σ : GS) (h : Heap) : kgroups PP cfg NN HH 69 o14 [(some (10, false), [11, 12, 13]), (some (13, true), [14, 15, 16, 17, 18, 19, 20, 21, 22, 23, 24, 25]), (some (10, false), [26]), (none, [27])] σ h (fun σ h => G .nrm (σ 1) (σ 2) (σ 3) (σ 68) h) = g14_1 k G (σ 1) (σ 2) (σ 3) (σ 51) h := (kgroups_cons (fun σ h => g14_2_eq k G σ h)).trans (g14_1_eq0 k G σ h)
@[simp] def g14_0 {R : Type} (k : Nat) (G : GX → GV → GV → GV → GV → Heap → Option R) (v1 : GV) (v2 : GV) (v3 : GV) (h : Heap) : Option R := (kfa 1 v1).bind fun v41 => (kload1 h v41).bind fun v42 => (kia 1 v42 v3).bind fun v44 => (kload1 h v44).bind fun v45 => (kfa 0 v1).bind fun v46 => (kload1 h v46).bind fun v47 => (kbin .sub v47 (.int .i64 31)).bind fun v48 => (kN NN fn.spec_l1Max [(.int .i64 0), v48] h).bind fun v49 => (kbin .lss v45 v49).bind fun v50 => g14_1 k G v1 v2 v3 v50 h
theorem g14_0_eq0 {R : Type} (k : Nat) (G : GX → GV → GV → GV → GV → Heap → Option R) (σ : GS) (h : Heap) : kgroup1 PP cfg NN HH 69 o14 (none, [0, 1, 2, 3, 4, 5, 6, 7, 8, 9, 10]) σ h (fun σ h => g14_1 k G (σ 1) (σ 2) (σ 3) (σ 51) h) = g14_0 k G (σ 1) (σ 2) (σ 3) h := by kernel_rfl
theorem g14_0_eq {R : Type} (k : Nat) (G : GX → GV → GV → GV → GV → Heap → Option R) (σ : GS) (h : Heap) : kgroups PP cfg NN HH 69 o14 [(none, [0, 1, 2, 3, 4, 5, 6, 7, 8, 9, 10]), (some (10, false), [11, 12, 13]), (some (13, true), [14, 15, 16, 17, 18, 19, 20, 21, 22, 23, 24, 25]), (some (10, false), [26]), (none, [27])] σ h (fun σ h => G .nrm (σ 1) (σ 2) (σ 3) (σ 68) h) = g14_0 k G (σ 1) (σ 2) (σ 3) h := (kgroups_cons (fun σ h => g14_1_eq k G σ h)).trans (g14_0_eq0 k G σ h)
@[simp] def n14 {R : Type} (k : Nat) (G : GX → GV → GV → GV → GV → Heap → Option R) (v1 : GV) (v2 : GV) (v3 : GV) (h : Heap) : Option R := g14_0 k G v1 v2 v3 h
theorem n14_eq {R : Type} (k : Nat) (G : GX → GV → GV → GV → GV → Heap → Option R) (σ : GS) (h : Heap) : KC k 69 c14 σ h (fun x σ h => G x (σ 1) (σ 2) (σ 3) (σ 68) h) = n14 k G (σ 1) (σ 2) (σ 3) h := (kregion_eq (id := 8) (draw := true) (ops := o14) (gs := [(none, [0, 1, 2, 3, 4, 5, 6, 7, 8, 9, 10]), (some (10, false), [11, 12, 13]), (some (13, true), [14, 15, 16, 17, 18, 19, 20, 21, 22, 23, 24, 25]), (some (10, false), [26]), (none, [27])]) (by kernel_rfl) (by kernel_rfl) (by kernel_rfl)).trans (g14_0_eq k G σ h)
@[simp] def n12 {R : Type} (k : Nat) (G : GX → GV → GV → GV → Heap → Option R) (v1 : GV) (v2 : GV) (v3 : GV) (h : Heap) : Option R := n14 k (fun x v1 v2 v3 v68 h => kx x (n13 k G v1 v2 v3 v68 h) (G x v1 v2 v3 h)) v1 v2 v3 h
theorem n12_eq {R : Type} (k : Nat) (G : GX → GV → GV → GV → Heap → Option R) (σ : GS) (h : Heap) : KC k 69 c12 σ h (fun x σ h => G x (σ 1) (σ 2) (σ 3) h) = n12 k G (σ 1) (σ 2) (σ 3) h := (kseq (b := c13) rfl (fun σ h => n13_eq k G σ h)).trans (n14_eq k (fun x v1 v2 v3 v68 h => kx x (n13 k G v1 v2 v3 v68 h) (G x v1 v2 v3 h)) σ h)
@[simp] def n11 {R : Type} (k : Nat) (G : GX → GV → GV → GV → Heap → Option R) (v1 : GV) (v2 : GV) (v3 : GV) (h : Heap) : Option R := n12 k (fun x v1 v2 v3 h => kb 1 x fun x => G x v1 v2 v3 h) v1 v2 v3 h
theorem n11_eq {R : Type} (k : Nat) (G : GX → GV → GV → GV → Heap → Option R) (σ : GS) (h : Heap) : KC k 69 c11 σ h (fun x σ h => G x (σ 1) (σ 2) (σ 3) h) = n11 k G (σ 1) (σ 2) (σ 3) h := (kblock_eq (a := c12) rfl).trans (n12_eq k (fun x v1 v2 v3 h => kb 1 x fun x => G x v1 v2 v3 h) σ h)
@[simp] def n9 {R : Type} (k : Nat) (G : GX → GV → GV → GV → Heap → Option R) (v1 : GV) (v2 : GV) (v3 : GV) (h : Heap) : Option R := n11 k (fun x v1 v2 v3 h => kx x (n10 k G v1 v2 v3 h) (G x v1 v2 v3 h)) v1 v2 v3 h
theorem n9_eq {R : Type} (k : Nat) (G : GX → GV → GV → GV → Heap → Option R) (σ : GS) (h : Heap) : KC k 69 c9 σ h (fun x σ h => G x (σ 1) (σ 2) (σ 3) h) = n9 k G (σ 1) (σ 2) (σ 3) h := (kseq (b := c10) rfl (fun σ h => n10_eq k G σ h)).trans (n11_eq k (fun x v1 v2 v3 h => kx x (n10 k G v1 v2 v3 h) (G x v1 v2 v3 h)) σ h)
noncomputable def c15 : Code := cL c8
@[simp] def n8 {R : Type} (k : Nat) (G : GX → GV → GV → GV → Heap → Option R) (v1 : GV) (v2 : GV) (v3 : GV) (h : Heap) : Option R := (kfa 1 v1).bind fun v35 => (kload1 h v35).bind fun v36 => (klen v36).bind fun v37 => (kbin .lss v3 v37).bind fun v38 => kcond v38 (n9 k G v1 v2 v3 h) (G (.ext 0) v1 v2 v3 h)
theorem n8_eq0 {R : Type} (k : Nat) (G : GX → GV → GV → GV → Heap → Option R) (σ : GS) (h : Heap) : KC k 69 c15 σ h (fun x σ h => kx x (n9 k G (σ 1) (σ 2) (σ 3) h) (G x (σ 1) (σ 2) (σ 3) h)) = n8 k G (σ 1) (σ 2) (σ 3) h := by kernel_rfl
theorem n8_eq {R : Type} (k : Nat) (G : GX → GV → GV → GV → Heap → Option R) (σ : GS) (h : Heap) : KC k 69 c8 σ h (fun x σ h => G x (σ 1) (σ 2) (σ 3) h) = n8 k G (σ 1) (σ 2) (σ 3) h := (kseq (b := c9) rfl (fun σ h => n9_eq k G σ h)).trans (n8_eq0 k G σ h)
def l7 {R : Type} (k : Nat) (G : GX → GV → Heap → Option R) : Nat → GV → GV → GV → Heap → Option R
  | 0, _, _, _, _ => none
  | r + 1, v1, v2, v3, h => n8 k (fun x v1 v2 v3 h => kx x (l7 k G r v1 v2 v3 h) (G x v2 h)) v1 v2 v3 h
theorem l7_eq {R : Type} (k : Nat) (G : GX → GV → Heap → Option R) : ∀ (r : Nat) (σ : GS) (h : Heap), kloop (fun σ h K => KC k 69 c8 σ h K) r σ h (fun x σ h => G x (σ 2) h) = l7 k G r (σ 1) (σ 2) (σ 3) h
  | 0, _, _ => rfl
  | r + 1, σ, h => (kloop_eq (fun σ h => l7_eq k G r σ h)).trans (n8_eq k (fun x v1 v2 v3 h => kx x (l7 k G r v1 v2 v3 h) (G x v2 h)) σ h)
@[simp] def n7 {R : Type} (k : Nat) (G : GX → GV → Heap → Option R) (v1 : GV) (v2 : GV) (v3 : GV) (h : Heap) : Option R := l7 k G k v1 v2 v3 h
theorem n7_eq {R : Type} (k : Nat) (G : GX → GV → Heap → Option R) (σ : GS) (h : Heap) : KC k 69 c7 σ h (fun x σ h => G x (σ 2) h) = n7 k G (σ 1) (σ 2) (σ 3) h := (kloopc_eq (a := c8) rfl).trans (l7_eq k G k σ h)
@[simp] def n6 {R : Type} (k : Nat) (G : GX → GV → Heap → Option R) (v1 : GV) (v2 : GV) (v3 : GV) (h : Heap) : Option R := n7 k (fun x v2 h => kb 0 x fun x => G x v2 h) v1 v2 v3 h
theorem n6_eq {R : Type} (k : Nat) (G : GX → GV → Heap → Option R) (σ : GS) (h : Heap) : KC k 69 c6 σ h (fun x σ h => G x (σ 2) h) = n6 k G (σ 1) (σ 2) (σ 3) h := (kblock_eq (a := c7) rfl).trans (n7_eq k (fun x v2 h => kb 0 x fun x => G x v2 h) σ h)
noncomputable def c16 : Code := cL c5
@[simp] def n5 {R : Type} (k : Nat) (G : GX → GV → Heap → Option R) (v1 : GV) (v2 : GV) (h : Heap) : Option R := n6 k G v1 v2 (.int .i64 0) h
theorem n5_eq0 {R : Type} (k : Nat) (G : GX → GV → Heap → Option R) (σ : GS) (h : Heap) : KC k 69 c16 σ h (fun x σ h => kx x (n6 k G (σ 1) (σ 2) (σ 3) h) (G x (σ 2) h)) = n5 k G (σ 1) (σ 2) h := by kernel_rfl
theorem n5_eq {R : Type} (k : Nat) (G : GX → GV → Heap → Option R) (σ : GS) (h : Heap) : KC k 69 c5 σ h (fun x σ h => G x (σ 2) h) = n5 k G (σ 1) (σ 2) h := (kseq (b := c6) rfl (fun σ h => n6_eq k G σ h)).trans (n5_eq0 k G σ h)
@[simp] def n3 {R : Type} (k : Nat) (G : GX → GV → Heap → Option R) (v1 : GV) (v2 : GV) (h : Heap) : Option R := n5 k (fun x v2 h => kx x (n4 k G h) (G x v2 h)) v1 v2 h
theorem n3_eq {R : Type} (k : Nat) (G : GX → GV → Heap → Option R) (σ : GS) (h : Heap) : KC k 69 c3 σ h (fun x σ h => G x (σ 2) h) = n3 k G (σ 1) (σ 2) h := (kseq (b := c4) rfl (fun σ h => n4_eq k G σ h)).trans (n5_eq k (fun x v2 h => kx x (n4 k G h) (G x v2 h)) σ h)
noncomputable def c17 : Code := cL c2
noncomputable def c18 : Code := cR c17
@[simp] def n18 {R : Type} (k : Nat) (G : GX → GV → GV → Heap → Option R) (v1 : GV) (v2 : GV) (v33 : GV) (h : Heap) : Option R := kcond v33 (G .ret v1 (.bool false) h) (G .nrm v1 v2 h)
theorem n18_eq {R : Type} (k : Nat) (G : GX → GV → GV → Heap → Option R) (σ : GS) (h : Heap) : KC k 69 c18 σ h (fun x σ h => G x (σ 1) (σ 2) h) = n18 k G (σ 1) (σ 2) (σ 33) h := by kernel_rfl
noncomputable def c19 : Code := cL c17
noncomputable def o19 : Array Oper := cO c19
@[simp] def g19_4 {R : Type} (k : Nat) (G : GX → GV → GV → GV → Heap → Option R) (v1 : GV) (v2 : GV) (v21 : GV) (v32 : GV) (h : Heap) : Option R := (kpick v21 (.bool true) v32).bind fun v33 => G .nrm v1 v2 v33 h
theorem g19_4_eq {R : Type} (k : Nat) (G : GX → GV → GV → GV → Heap → Option R) (σ : GS) (h : Heap) : kgroups PP cfg NN HH 69 o19 [(none, [22])] σ h (fun σ h => G .nrm (σ 1) (σ 2) (σ 33) h) = g19_4 k G (σ 1) (σ 2) (σ 21) (σ 32) h := by kernel_rfl
@[simp] def g19_3 {R : Type} (k : Nat) (G : GX → GV → GV → GV → Heap → Option R) (v1 : GV) (v2 : GV) (v21 : GV) (h : Heap) : Option R := bif tr false v21 then (kfa 1 v1).bind fun v22 => (kload1 h v22).bind fun v23 => (kfa 1 v1).bind fun v24 => (kload1 h v24).bind fun v25 => (klen v25).bind fun v26 => (kbin .sub v26 (.int .i64 1)).bind fun v27 => (kia 1 v23 v27).bind fun v28 => (kload1 h v28).bind fun v29 => (kfa 0 v1).bind fun v30 => (kload1 h v30).bind fun v31 => (kbin .neq v29 v31).bind fun v32 => g19_4 k G v1 v2 v21 v32 h else g19_4 k G v1 v2 v21 .un h
theorem g19_3_eq0 {R : Type} (k : Nat) (G : GX → GV → GV → GV → Heap → Option R) (σ : GS) (h : Heap) : kgroup1 PP cfg NN HH 69 o19 (some (10, false), [11, 12, 13, 14, 15, 16, 17, 18, 19, 20, 21]) σ h (fun σ h => g19_4 k G (σ 1) (σ 2) (σ 21) (σ 32) h) = g19_3 k G (σ 1) (σ 2) (σ 21) h := by kernel_rfl
theorem g19_3_eq {R : Type} (k : Nat) (G : GX → GV → GV → GV → Heap → Option R) (σ : GS) (h : Heap) : kgroups PP cfg NN HH 69 o19 [(some (10, false), [11, 12, 13, 14, 15, 16, 17, 18, 19, 20, 21]), (none, [22])] σ h (fun σ h => G .nrm (σ 1) (σ 2) (σ 33) h) = g19_3 k G (σ 1) (σ 2) (σ 21) h := (kgroups_cons (fun σ h => g19_4_eq k G σ h)).trans (g19_3_eq0 k G σ h)
@[simp] def g19_2 {R : Type} (k : Nat) (G : GX → GV → GV → GV → Heap → Option R) (v1 : GV) (v2 : GV) (v15 : GV) (v19 : GV) (h : Heap) : Option R := (kpick v15 (.bool true) v19).bind fun v20 => g19_3 k G v1 v2 v20 h
theorem g19_2_eq0 {R : Type} (k : Nat) (G : GX → GV → GV → GV → Heap → Option R) (σ : GS) (h : Heap) : kgroup1 PP cfg NN HH 69 o19 (none, [9, 10]) σ h (fun σ h => g19_3 k G (σ 1) (σ 2) (σ 21) h) = g19_2 k G (σ 1) (σ 2) (σ 15) (σ 19) h := by kernel_rfl
theorem g19_2_eq {R : Type} (k : Nat) (G : GX → GV → GV → GV → Heap → Option R) (σ : GS) (h : Heap) : kgroups PP cfg NN HH 69 o19 [(none, [9, 10]), (some (10, false), [11, 12, 13, 14, 15, 16, 17, 18, 19, 20, 21]), (none, [22])] σ h (fun σ h => G .nrm (σ 1) (σ 2) (σ 33) h) = g19_2 k G (σ 1) (σ 2) (σ 15) (σ 19) h := (kgroups_cons (fun σ h => g19_3_eq k G σ h)).trans (g19_2_eq0 k G σ h)
@[simp] def g19_1 {R : Type} (k : Nat) (G : GX → GV → GV → GV → Heap → Option R) (v1 : GV) (v2 : GV) (v15 : GV) (h : Heap) : Option R := bif tr false v15 then (kfa 1 v1).bind fun v16 => (kload1 h v16).bind fun v17 => (klen v17).bind fun v18 => (kbin .lss v18 (.int .i64 1)).bind fun v19 => g19_2 k G v1 v2 v15 v19 h else g19_2 k G v1 v2 v15 .un h
theorem g19_1_eq0 {R : Type} (k : Nat) (G : GX → GV → GV → GV → Heap → Option R) (σ : GS) (h : Heap) : kgroup1 PP cfg NN HH 69 o19 (some (4, false), [5, 6, 7, 8]) σ h (fun σ h => g19_2 k G (σ 1) (σ 2) (σ 15) (σ 19) h) = g19_1 k G (σ 1) (σ 2) (σ 15) h := by kernel_rfl
theorem g19_1_eq {R : Type} (k : Nat) (G : GX → GV → GV → GV → Heap → Option R) (σ : GS) (h : Heap) : kgroups PP cfg NN HH 69 o19 [(some (4, false), [5, 6, 7, 8]), (none, [9, 10]), (some (10, false), [11, 12, 13, 14, 15, 16, 17, 18, 19, 20, 21]), (none, [22])] σ h (fun σ h => G .nrm (σ 1) (σ 2) (σ 33) h) = g19_1 k G (σ 1) (σ 2) (σ 15) h := (kgroups_cons (fun σ h => g19_2_eq k G σ h)).trans (g19_1_eq0 k G σ h)
@[simp] def g19_0 {R : Type} (k : Nat) (G : GX → GV → GV → GV → Heap → Option R) (v1 : GV) (v2 : GV) (h : Heap) : Option R := (kfa 0 v1).bind fun v11 => (kload1 h v11).bind fun v12 => (kN NN fn.spec_l1In [v12, (.int .i64 0), (.int .i64 1099511627776)] h).bind fun v13 => (kun .not v13).bind fun v14 => g19_1 k G v1 v2 v14 h
theorem g19_0_eq0 {R : Type} (k : Nat) (G : GX → GV → GV → GV → Heap → Option R) (σ : GS) (h : Heap) : kgroup1 PP cfg NN HH 69 o19 (none, [0, 1, 2, 3, 4]) σ h (fun σ h => g19_1 k G (σ 1) (σ 2) (σ 15) h) = g19_0 k G (σ 1) (σ 2) h := by kernel_rfl
theorem g19_0_eq {R : Type} (k : Nat) (G : GX → GV → GV → GV → Heap → Option R) (σ : GS) (h : Heap) : kgroups PP cfg NN HH 69 o19 [(none, [0, 1, 2, 3, 4]), (some (4, false), [5, 6, 7, 8]), (none, [9, 10]), (some (10, false), [11, 12, 13, 14, 15, 16, 17, 18, 19, 20, 21]), (none, [22])] σ h (fun σ h => G .nrm (σ 1) (σ 2) (σ 33) h) = g19_0 k G (σ 1) (σ 2) h := (kgroups_cons (fun σ h => g19_1_eq k G σ h)).trans (g19_0_eq0 k G σ h)
@[simp] def n19 {R : Type} (k : Nat) (G : GX → GV → GV → GV → Heap → Option R) (v1 : GV) (v2 : GV) (h : Heap) : Option R := g19_0 k G v1 v2 h
theorem n19_eq {R : Type} (k : Nat) (G : GX → GV → GV → GV → Heap → Option R) (σ : GS) (h : Heap) : KC k 69 c19 σ h (fun x σ h => G x (σ 1) (σ 2) (σ 33) h) = n19 k G (σ 1) (σ 2) h := (kregion_eq (id := 3) (draw := true) (ops := o19) (gs := [(none, [0, 1, 2, 3, 4]), (some (4, false), [5, 6, 7, 8]), (none, [9, 10]), (some (10, false), [11, 12, 13, 14, 15, 16, 17, 18, 19, 20, 21]), (none, [22])]) (by kernel_rfl) (by kernel_rfl) (by kernel_rfl)).trans (g19_0_eq k G σ h)
@[simp] def n17 {R : Type} (k : Nat) (G : GX → GV → GV → Heap → Option R) (v1 : GV) (v2 : GV) (h : Heap) : Option R := n19 k (fun x v1 v2 v33 h => kx x (n18 k G v1 v2 v33 h) (G x v1 v2 h)) v1 v2 h
theorem n17_eq {R : Type} (k : Nat) (G : GX → GV → GV → Heap → Option R) (σ : GS) (h : Heap) : KC k 69 c17 σ h (fun x σ h => G x (σ 1) (σ 2) h) = n17 k G (σ 1) (σ 2) h := (kseq (b := c18) rfl (fun σ h => n18_eq k G σ h)).trans (n19_eq k (fun x v1 v2 v33 h => kx x (n18 k G v1 v2 v33 h) (G x v1 v2 h)) σ h)
@[simp] def n2 {R : Type} (k : Nat) (G : GX → GV → Heap → Option R) (v1 : GV) (v2 : GV) (h : Heap) : Option R := n17 k (fun x v1 v2 h => kx x (n3 k G v1 v2 h) (G x v2 h)) v1 v2 h
theorem n2_eq {R : Type} (k : Nat) (G : GX → GV → Heap → Option R) (σ : GS) (h : Heap) : KC k 69 c2 σ h (fun x σ h => G x (σ 2) h) = n2 k G (σ 1) (σ 2) h := (kseq (b := c3) rfl (fun σ h => n3_eq k G σ h)).trans (n17_eq k (fun x v1 v2 h => kx x (n3 k G v1 v2 h) (G x v2 h)) σ h)
noncomputable def c20 : Code := cL c1
@[simp] def n1 {R : Type} (k : Nat) (G : GX → GV → Heap → Option R) (v1 : GV) (v2 : GV) (h : Heap) : Option R := (kfa 0 v1).bind fun v4 => (kload1 h v4).bind fun v5 => (kbin .eql v5 (.int .i64 (-1))).bind fun v6 => kcond v6 ((kfa 1 v1).bind fun v7 => (kload1 h v7).bind fun v8 => (klen v8).bind fun v9 => (kbin .eql v9 (.int .i64 0)).bind fun v10 => G .ret v10 h) (n2 k G v1 v2 h)
theorem n1_eq0 {R : Type} (k : Nat) (G : GX → GV → Heap → Option R) (σ : GS) (h : Heap) : KC k 69 c20 σ h (fun x σ h => kx x (n2 k G (σ 1) (σ 2) h) (G x (σ 2) h)) = n1 k G (σ 1) (σ 2) h := by kernel_rfl
theorem n1_eq {R : Type} (k : Nat) (G : GX → GV → Heap → Option R) (σ : GS) (h : Heap) : KC k 69 c1 σ h (fun x σ h => G x (σ 2) h) = n1 k G (σ 1) (σ 2) h := (kseq (b := c2) rfl (fun σ h => n2_eq k G σ h)).trans (n1_eq0 k G σ h)
noncomputable def c21 : Code := cL c0
@[simp] def n0 {R : Type} (k : Nat) (G : GX → GV → Heap → Option R) (v0 : GV) (h : Heap) : Option R := kbox v0 h fun v1 h => n1 k G v1 (.bool false) h
theorem n0_eq0 {R : Type} (k : Nat) (G : GX → GV → Heap → Option R) (σ : GS) (h : Heap) : KC k 69 c21 σ h (fun x σ h => kx x (n1 k G (σ 1) (σ 2) h) (G x (σ 2) h)) = n0 k G (σ 0) h := by kernel_rfl
theorem n0_eq {R : Type} (k : Nat) (G : GX → GV → Heap → Option R) (σ : GS) (h : Heap) : KC k 69 c0 σ h (fun x σ h => G x (σ 2) h) = n0 k G (σ 0) h := (kseq (b := c1) rfl (fun σ h => n1_eq k G σ h)).trans (n0_eq0 k G σ h)
def run {R : Type} (k : Nat) (a0 : GV) (h : Heap) (fin : GV → Heap → Option R) : Option R := n0 k (fun x v2 h => kend x (fin v2 h)) a0 h
theorem run_eq {R : Type} (k : Nat) (a0 : GV) (h : Heap) (fin : GV → Heap → Option R) : kfun PP cfg NN HH k fn.spec_WindowOk [a0] h fin = run k a0 h fin := (kfun_eq (nt := 69) (c := c0) (show PP.funcs[fn.spec_WindowOk]? = some Try.f21 by kernel_rfl) (by kernel_rfl) (by kernel_rfl) (fun x σ h => by cases x <;> kernel_rfl)).trans (n0_eq k (fun x v2 h => kend x (fin v2 h)) _ h)
theorem gives {k : Nat} {a0 : GV} {v : GV} (e : run k a0 [] finN = some v) : NN fn.spec_WindowOk [a0] = some v := nω_of (by kernel_rfl) ((run_eq k a0 [] finN).trans e)
end S.spec_WindowOk
/-! laws_toInt64S -/
namespace S.laws_toInt64S
noncomputable def c0 : Code := bodyOf Try.f55
noncomputable def c1 : Code := cR c0
noncomputable def c2 : Code := cR c1
noncomputable def c3 : Code := cR c2
@[simp] def n3 {R : Type} (k : Nat) (G : GX → GV → Heap → Option R) (v3 : GV) (h : Heap) : Option R := G .ret v3 h
theorem n3_eq {R : Type} (k : Nat) (G : GX → GV → Heap → Option R) (σ : GS) (h : Heap) : KC k 22 c3 σ h (fun x σ h => G x (σ 2) h) = n3 k G (σ 3) h := by kernel_rfl
noncomputable def c4 : Code := cL c2
noncomputable def c5 : Code := cR c4
noncomputable def c6 : Code := cL c5
noncomputable def c7 : Code := cL c6
noncomputable def c8 : Code := cR c7
noncomputable def c9 : Code := cR c8
@[simp] def n9 {R : Type} (k : Nat) (G : GX → GV → GV → GV → GV → Heap → Option R) (v0 : GV) (v2 : GV) (v3 : GV) (v4 : GV) (h : Heap) : Option R := (kbin .add v4 (.int .i64 1)).bind fun v13 => G .nrm v0 v2 v3 v13 h
theorem n9_eq {R : Type} (k : Nat) (G : GX → GV → GV → GV → GV → Heap → Option R) (σ : GS) (h : Heap) : KC k 22 c9 σ h (fun x σ h => G x (σ 0) (σ 2) (σ 3) (σ 4) h) = n9 k G (σ 0) (σ 2) (σ 3) (σ 4) h := by kernel_rfl
noncomputable def c10 : Code := cL c8
noncomputable def c11 : Code := cL c10
@[simp] def n11 {R : Type} (k : Nat) (G : GX → GV → GV → GV → GV → Heap → Option R) (v0 : GV) (v2 : GV) (v3 : GV) (v4 : GV) (h : Heap) : Option R := (kia 1 v0 v4).bind fun v18 => (kload1 h v18).bind fun v19 => (kia 1 v3 v4).bind fun v20 => (kstore 1 h v20 v19).bind fun h => G .nrm v0 v2 v3 v4 h
theorem n11_eq {R : Type} (k : Nat) (G : GX → GV → GV → GV → GV → Heap → Option R) (σ : GS) (h : Heap) : KC k 22 c11 σ h (fun x σ h => G x (σ 0) (σ 2) (σ 3) (σ 4) h) = n11 k G (σ 0) (σ 2) (σ 3) (σ 4) h := by kernel_rfl
@[simp] def n10 {R : Type} (k : Nat) (G : GX → GV → GV → GV → GV → Heap → Option R) (v0 : GV) (v2 : GV) (v3 : GV) (v4 : GV) (h : Heap) : Option R := n11 k (fun x v0 v2 v3 v4 h => kb 1 x fun x => G x v0 v2 v3 v4 h) v0 v2 v3 v4 h
theorem n10_eq {R : Type} (k : Nat) (G : GX → GV → GV → GV → GV → Heap → Option R) (σ : GS) (h : Heap) : KC k 22 c10 σ h (fun x σ h => G x (σ 0) (σ 2) (σ 3) (σ 4) h) = n10 k G (σ 0) (σ 2) (σ 3) (σ 4) h := (kblock_eq (a := c11) rfl).trans (n11_eq k (fun x v0 v2 v3 v4 h => kb 1 x fun x => G x v0 v2 v3 v4 h) σ h)
@[simp] def n8 {R : Type} (k : Nat) (G : GX → GV → GV → GV → GV → Heap → Option R) (v0 : GV) (v2 : GV) (v3 : GV) (v4 : GV) (h : Heap) : Option R := n10 k (fun x v0 v2 v3 v4 h => kx x (n9 k G v0 v2 v3 v4 h) (G x v0 v2 v3 v4 h)) v0 v2 v3 v4 h
theorem n8_eq {R : Type} (k : Nat) (G : GX → GV → GV → GV → GV → Heap → Option R) (σ : GS) (h : Heap) : KC k 22 c8 σ h (fun x σ h => G x (σ 0) (σ 2) (σ 3) (σ 4) h) = n8 k G (σ 0) (σ 2) (σ 3) (σ 4) h := (kseq (b := c9) rfl (fun σ h => n9_eq k G σ h)).trans (n10_eq k (fun x v0 v2 v3 v4 h => kx x (n9 k G v0 v2 v3 v4 h) (G x v0 v2 v3 v4 h)) σ h)
noncomputable def c12 : Code := cL c7
@[simp] def n7 {R : Type} (k : Nat) (G : GX → GV → GV → GV → GV → Heap → Option R) (v0 : GV) (v2 : GV) (v3 : GV) (v4 : GV) (h : Heap) : Option R := (klen v0).bind fun v10 => (kbin .lss v4 v10).bind fun v11 => kcond v11 (n8 k G v0 v2 v3 v4 h) (G (.ext 0) v0 v2 v3 v4 h)
theorem n7_eq0 {R : Type} (k : Nat) (G : GX → GV → GV → GV → GV → Heap → Option R) (σ : GS) (h : Heap) : KC k 22 c12 σ h (fun x σ h => kx x (n8 k G (σ 0) (σ 2) (σ 3) (σ 4) h) (G x (σ 0) (σ 2) (σ 3) (σ 4) h)) = n7 k G (σ 0) (σ 2) (σ 3) (σ 4) h := by kernel_rfl
theorem n7_eq {R : Type} (k : Nat) (G : GX → GV → GV → GV → GV → Heap → Option R) (σ : GS) (h : Heap) : KC k 22 c7 σ h (fun x σ h => G x (σ 0) (σ 2) (σ 3) (σ 4) h) = n7 k G (σ 0) (σ 2) (σ 3) (σ 4) h := (kseq (b := c8) rfl (fun σ h => n8_eq k G σ h)).trans (n7_eq0 k G σ h)
def l6 {R : Type} (k : Nat) (G : GX → GV → GV → Heap → Option R) : Nat → GV → GV → GV → GV → Heap → Option R
  | 0, _, _, _, _, _ => none
  | r + 1, v0, v2, v3, v4, h => n7 k (fun x v0 v2 v3 v4 h => kx x (l6 k G r v0 v2 v3 v4 h) (G x v2 v3 h)) v0 v2 v3 v4 h
theorem l6_eq {R : Type} (k : Nat) (G : GX → GV → GV → Heap → Option R) : ∀ (r : Nat) (σ : GS) (h : Heap), kloop (fun σ h K => KC k 22 c7 σ h K) r σ h (fun x σ h => G x (σ 2) (σ 3) h) = l6 k G r (σ 0) (σ 2) (σ 3) (σ 4) h
  | 0, _, _ => rfl
  | r + 1, σ, h => (kloop_eq (fun σ h => l6_eq k G r σ h)).trans (n7_eq k (fun x v0 v2 v3 v4 h => kx x (l6 k G r v0 v2 v3 v4 h) (G x v2 v3 h)) σ h)
@[simp] def n6 {R : Type} (k : Nat) (G : GX → GV → GV → Heap → Option R) (v0 : GV) (v2 : GV) (v3 : GV) (v4 : GV) (h : Heap) : Option R := l6 k G k v0 v2 v3 v4 h
theorem n6_eq {R : Type} (k : Nat) (G : GX → GV → GV → Heap → Option R) (σ : GS) (h : Heap) : KC k 22 c6 σ h (fun x σ h => G x (σ 2) (σ 3) h) = n6 k G (σ 0) (σ 2) (σ 3) (σ 4) h := (kloopc_eq (a := c7) rfl).trans (l6_eq k G k σ h)
@[simp] def n5 {R : Type} (k : Nat) (G : GX → GV → GV → Heap → Option R) (v0 : GV) (v2 : GV) (v3 : GV) (v4 : GV) (h : Heap) : Option R := n6 k (fun x v2 v3 h => kb 0 x fun x => G x v2 v3 h) v0 v2 v3 v4 h
theorem n5_eq {R : Type} (k : Nat) (G : GX → GV → GV → Heap → Option R) (σ : GS) (h : Heap) : KC k 22 c5 σ h (fun x σ h => G x (σ 2) (σ 3) h) = n5 k G (σ 0) (σ 2) (σ 3) (σ 4) h := (kblock_eq (a := c6) rfl).trans (n6_eq k (fun x v2 v3 h => kb 0 x fun x => G x v2 v3 h) σ h)
noncomputable def c13 : Code := cL c4
@[simp] def n4 {R : Type} (k : Nat) (G : GX → GV → GV → Heap → Option R) (v0 : GV) (v2 : GV) (v3 : GV) (h : Heap) : Option R := n5 k G v0 v2 v3 (.int .i64 0) h
theorem n4_eq0 {R : Type} (k : Nat) (G : GX → GV → GV → Heap → Option R) (σ : GS) (h : Heap) : KC k 22 c13 σ h (fun x σ h => kx x (n5 k G (σ 0) (σ 2) (σ 3) (σ 4) h) (G x (σ 2) (σ 3) h)) = n4 k G (σ 0) (σ 2) (σ 3) h := by kernel_rfl
theorem n4_eq {R : Type} (k : Nat) (G : GX → GV → GV → Heap → Option R) (σ : GS) (h : Heap) : KC k 22 c4 σ h (fun x σ h => G x (σ 2) (σ 3) h) = n4 k G (σ 0) (σ 2) (σ 3) h := (kseq (b := c5) rfl (fun σ h => n5_eq k G σ h)).trans (n4_eq0 k G σ h)
@[simp] def n2 {R : Type} (k : Nat) (G : GX → GV → Heap → Option R) (v0 : GV) (v2 : GV) (v3 : GV) (h : Heap) : Option R := n4 k (fun x v2 v3 h => kx x (n3 k G v3 h) (G x v2 h)) v0 v2 v3 h
theorem n2_eq {R : Type} (k : Nat) (G : GX → GV → Heap → Option R) (σ : GS) (h : Heap) : KC k 22 c2 σ h (fun x σ h => G x (σ 2) h) = n2 k G (σ 0) (σ 2) (σ 3) h := (kseq (b := c3) rfl (fun σ h => n3_eq k G σ h)).trans (n4_eq k (fun x v2 v3 h => kx x (n3 k G v3 h) (G x v2 h)) σ h)
noncomputable def c14 : Code := cL c1
@[simp] def n1 {R : Type} (k : Nat) (G : GX → GV → Heap → Option R) (v0 : GV) (v2 : GV) (h : Heap) : Option R := (klen v0).bind fun v6 => (kmake [(.int .i64 0)] 1 8 v6 v6 h).bind fun r => kr r fun v7 h => n2 k G v0 v2 v7 h
theorem n1_eq0 {R : Type} (k : Nat) (G : GX → GV → Heap → Option R) (σ : GS) (h : Heap) : KC k 22 c14 σ h (fun x σ h => kx x (n2 k G (σ 0) (σ 2) (σ 3) h) (G x (σ 2) h)) = n1 k G (σ 0) (σ 2) h := by kernel_rfl
theorem n1_eq {R : Type} (k : Nat) (G : GX → GV → Heap → Option R) (σ : GS) (h : Heap) : KC k 22 c1 σ h (fun x σ h => G x (σ 2) h) = n1 k G (σ 0) (σ 2) h := (kseq (b := c2) rfl (fun σ h => n2_eq k G σ h)).trans (n1_eq0 k G σ h)
noncomputable def c15 : Code := cL c0
@[simp] def n0 {R : Type} (k : Nat) (G : GX → GV → Heap → Option R) (v0 : GV) (h : Heap) : Option R := n1 k G v0 .nils h
theorem n0_eq0 {R : Type} (k : Nat) (G : GX → GV → Heap → Option R) (σ : GS) (h : Heap) : KC k 22 c15 σ h (fun x σ h => kx x (n1 k G (σ 0) (σ 2) h) (G x (σ 2) h)) = n0 k G (σ 0) h := by kernel_rfl
theorem n0_eq {R : Type} (k : Nat) (G : GX → GV → Heap → Option R) (σ : GS) (h : Heap) : KC k 22 c0 σ h (fun x σ h => G x (σ 2) h) = n0 k G (σ 0) h := (kseq (b := c1) rfl (fun σ h => n1_eq k G σ h)).trans (n0_eq0 k G σ h)
def run {R : Type} (k : Nat) (a0 : GV) (h : Heap) (fin : GV → Heap → Option R) : Option R := n0 k (fun x v2 h => kend x (fin v2 h)) a0 h
theorem run_eq {R : Type} (k : Nat) (a0 : GV) (h : Heap) (fin : GV → Heap → Option R) : kfun PP cfg NN HH k fn.laws_toInt64S [a0] h fin = run k a0 h fin := (kfun_eq (nt := 22) (c := c0) (show PP.funcs[fn.laws_toInt64S]? = some Try.f55 by kernel_rfl) (by kernel_rfl) (by kernel_rfl) (fun x σ h => by cases x <;> kernel_rfl)).trans (n0_eq k (fun x v2 h => kend x (fin v2 h)) _ h)
theorem gives {k : Nat} {a0 : GV} {v : GV} (e : run k a0 [] finN = some v) : NN fn.laws_toInt64S [a0] = some v := nω_of (by kernel_rfl) ((run_eq k a0 [] finN).trans e)
end S.laws_toInt64S
/-! laws_toWindow -/
namespace S.laws_toWindow
noncomputable def c0 : Code := bodyOf Try.f22
@[simp] def n0 {R : Type} (k : Nat) (G : GX → GV → Heap → Option R) (v0 : GV) (h : Heap) : Option R := kbox v0 h fun v1 h => kalloc [(.int .i64 0), .nils] h fun v2 h => kalloc [(.int .i64 0), .nils] h fun v3 h => (kfa 0 v1).bind fun v4 => (kload1 h v4).bind fun v5 => (kfa 0 v3).bind fun v6 => (kstore 1 h v6 v5).bind fun h => (kfa 1 v1).bind fun v7 => (kload1 h v7).bind fun v8 => (kN NN fn.laws_toInt64S [v8] h).bind fun v9 => (kfa 1 v3).bind fun v10 => (kstore 1 h v10 v9).bind fun h => (kloadA 2 h v3).bind fun v11 => (kstore 2 h v2 v11).bind fun h => G .ret v2 h
theorem n0_eq {R : Type} (k : Nat) (G : GX → GV → Heap → Option R) (σ : GS) (h : Heap) : KC k 12 c0 σ h (fun x σ h => G x (σ 2) h) = n0 k G (σ 0) h := by kernel_rfl
def run {R : Type} (k : Nat) (a0 : GV) (h : Heap) (fin : GV → Heap → Option R) : Option R := n0 k (fun x v2 h => kend x ((kloadA 2 h v2).bind fun w2 => fin w2 h)) a0 h
theorem run_eq {R : Type} (k : Nat) (a0 : GV) (h : Heap) (fin : GV → Heap → Option R) : kfun PP cfg NN HH k fn.laws_toWindow [a0] h fin = run k a0 h fin := (kfun_eq (nt := 12) (c := c0) (show PP.funcs[fn.laws_toWindow]? = some Try.f22 by kernel_rfl) (by kernel_rfl) (by kernel_rfl) (fun x σ h => by cases x <;> kernel_rfl)).trans (n0_eq k (fun x v2 h => kend x ((kloadA 2 h v2).bind fun w2 => fin w2 h)) _ h)
theorem gives {k : Nat} {a0 : GV} {v : GV} (e : run k a0 [] finN = some v) : NN fn.laws_toWindow [a0] = some v := nω_of (by kernel_rfl) ((run_eq k a0 [] finN).trans e)
end S.laws_toWindow
/-! impl_WindowOk -/
namespace S.impl_WindowOk
noncomputable def c0 : Code := bodyOf Try.f23
noncomputable def c1 : Code := cR c0
noncomputable def c2 : Code := cR c1
noncomputable def c3 : Code := cR c2
noncomputable def c4 : Code := cR c3
@[simp] def n4 {R : Type} (k : Nat) (G : GX → GV → Heap → Option R) (v2 : GV) (h : Heap) : Option R := G .ret v2 h
theorem n4_eq {R : Type} (k : Nat) (G : GX → GV → Heap → Option R) (σ : GS) (h : Heap) : KC k 67 c4 σ h (fun x σ h => G x (σ 2) h) = n4 k G (σ 2) h := by kernel_rfl
noncomputable def c5 : Code := cL c3
noncomputable def o5 : Array Oper := cO c5
@[simp] def g5_4 {R : Type} (k : Nat) (G : GX → GV → Heap → Option R) (v54 : GV) (v65 : GV) (h : Heap) : Option R := (kpick v54 v65 (.bool false)).bind fun v66 => G .nrm v66 h
theorem g5_4_eq {R : Type} (k : Nat) (G : GX → GV → Heap → Option R) (σ : GS) (h : Heap) : kgroups PP cfg NN HH 67 o5 [(none, [21, 22])] σ h (fun σ h => G .nrm (σ 2) h) = g5_4 k G (σ 54) (σ 65) h := by kernel_rfl
@[simp] def g5_3 {R : Type} (k : Nat) (G : GX → GV → Heap → Option R) (v1 : GV) (v54 : GV) (h : Heap) : Option R := bif tr true v54 then (kfa 1 v1).bind fun v55 => (kload1 h v55).bind fun v56 => (kfa 1 v1).bind fun v57 => (kload1 h v57).bind fun v58 => (klen v58).bind fun v59 => (kbin .sub v59 (.int .i64 1)).bind fun v60 => (kia 1 v56 v60).bind fun v61 => (kload1 h v61).bind fun v62 => (kfa 0 v1).bind fun v63 => (kload1 h v63).bind fun v64 => (kbin .eql v62 v64).bind fun v65 => g5_4 k G v54 v65 h else g5_4 k G v54 .un h
theorem g5_3_eq0 {R : Type} (k : Nat) (G : GX → GV → Heap → Option R) (σ : GS) (h : Heap) : kgroup1 PP cfg NN HH 67 o5 (some (9, true), [10, 11, 12, 13, 14, 15, 16, 17, 18, 19, 20]) σ h (fun σ h => g5_4 k G (σ 54) (σ 65) h) = g5_3 k G (σ 1) (σ 54) h := by kernel_rfl
theorem g5_3_eq {R : Type} (k : Nat) (G : GX → GV → Heap → Option R) (σ : GS) (h : Heap) : kgroups PP cfg NN HH 67 o5 [(some (9, true), [10, 11, 12, 13, 14, 15, 16, 17, 18, 19, 20]), (none, [21, 22])] σ h (fun σ h => G .nrm (σ 2) h) = g5_3 k G (σ 1) (σ 54) h := (kgroups_cons (fun σ h => g5_4_eq k G σ h)).trans (g5_3_eq0 k G σ h)
@[simp] def g5_2 {R : Type} (k : Nat) (G : GX → GV → Heap → Option R) (v1 : GV) (v48 : GV) (v52 : GV) (h : Heap) : Option R := (kpick v48 v52 (.bool false)).bind fun v53 => g5_3 k G v1 v53 h
theorem g5_2_eq0 {R : Type} (k : Nat) (G : GX → GV → Heap → Option R) (σ : GS) (h : Heap) : kgroup1 PP cfg NN HH 67 o5 (none, [8, 9]) σ h (fun σ h => g5_3 k G (σ 1) (σ 54) h) = g5_2 k G (σ 1) (σ 48) (σ 52) h := by kernel_rfl
theorem g5_2_eq {R : Type} (k : Nat) (G : GX → GV → Heap → Option R) (σ : GS) (h : Heap) : kgroups PP cfg NN HH 67 o5 [(none, [8, 9]), (some (9, true), [10, 11, 12, 13, 14, 15, 16, 17, 18, 19, 20]), (none, [21, 22])] σ h (fun σ h => G .nrm (σ 2) h) = g5_2 k G (σ 1) (σ 48) (σ 52) h := (kgroups_cons (fun σ h => g5_3_eq k G σ h)).trans (g5_2_eq0 k G σ h)
@[simp] def g5_1 {R : Type} (k : Nat) (G : GX → GV → Heap → Option R) (v1 : GV) (v48 : GV) (h : Heap) : Option R := bif tr true v48 then (kfa 1 v1).bind fun v49 => (kload1 h v49).bind fun v50 => (klen v50).bind fun v51 => (kbin .gtr v51 (.int .i64 0)).bind fun v52 => g5_2 k G v1 v48 v52 h else g5_2 k G v1 v48 .un h
theorem g5_1_eq0 {R : Type} (k : Nat) (G : GX → GV → Heap → Option R) (σ : GS) (h : Heap) : kgroup1 PP cfg NN HH 67 o5 (some (3, true), [4, 5, 6, 7]) σ h (fun σ h => g5_2 k G (σ 1) (σ 48) (σ 52) h) = g5_1 k G (σ 1) (σ 48) h := by kernel_rfl
theorem g5_1_eq {R : Type} (k : Nat) (G : GX → GV → Heap → Option R) (σ : GS) (h : Heap) : kgroups PP cfg NN HH 67 o5 [(some (3, true), [4, 5, 6, 7]), (none, [8, 9]), (some (9, true), [10, 11, 12, 13, 14, 15, 16, 17, 18, 19, 20]), (none, [21, 22])] σ h (fun σ h => G .nrm (σ 2) h) = g5_1 k G (σ 1) (σ 48) h := (kgroups_cons (fun σ h => g5_2_eq k G σ h)).trans (g5_1_eq0 k G σ h)
@[simp] def g5_0 {R : Type} (k : Nat) (G : GX → GV → Heap → Option R) (v1 : GV) (h : Heap) : Option R := (kfa 0 v1).bind fun v45 => (kload1 h v45).bind fun v46 => (kN NN fn.impl_in [v46, (.int .i64 0), (.int .i64 1099511627776)] h).bind fun v47 => g5_1 k G v1 v47 h
theorem g5_0_eq0 {R : Type} (k : Nat) (G : GX → GV → Heap → Option R) (σ : GS) (h : Heap) : kgroup1 PP cfg NN HH 67 o5 (none, [0, 1, 2, 3]) σ h (fun σ h => g5_1 k G (σ 1) (σ 48) h) = g5_0 k G (σ 1) h := by kernel_rfl
theorem g5_0_eq {R : Type} (k : Nat) (G : GX → GV → Heap → Option R) (σ : GS) (h : Heap) : kgroups PP cfg NN HH 67 o5 [(none, [0, 1, 2, 3]), (some (3, true), [4, 5, 6, 7]), (none, [8, 9]), (some (9, true), [10, 11, 12, 13, 14, 15, 16, 17, 18, 19, 20]), (none, [21, 22])] σ h (fun σ h => G .nrm (σ 2) h) = g5_0 k G (σ 1) h := (kgroups_cons (fun σ h => g5_1_eq k G σ h)).trans (g5_0_eq0 k G σ h)
@[simp] def n5 {R : Type} (k : Nat) (G : GX → GV → Heap → Option R) (v1 : GV) (h : Heap) : Option R := g5_0 k G v1 h
theorem n5_eq {R : Type} (k : Nat) (G : GX → GV → Heap → Option R) (σ : GS) (h : Heap) : KC k 67 c5 σ h (fun x σ h => G x (σ 2) h) = n5 k G (σ 1) h := (kregion_eq (id := 9) (draw := true) (ops := o5) (gs := [(none, [0, 1, 2, 3]), (some (3, true), [4, 5, 6, 7]), (none, [8, 9]), (some (9, true), [10, 11, 12, 13, 14, 15, 16, 17, 18, 19, 20]), (none, [21, 22])]) (by kernel_rfl) (by kernel_rfl) (by kernel_rfl)).trans (g5_0_eq k G σ h)
@[simp] def n3 {R : Type} (k : Nat) (G : GX → GV → Heap → Option R) (v1 : GV) (h : Heap) : Option R := n5 k (fun x v2 h => kx x (n4 k G v2 h) (G x v2 h)) v1 h
theorem n3_eq {R : Type} (k : Nat) (G : GX → GV → Heap → Option R) (σ : GS) (h : Heap) : KC k 67 c3 σ h (fun x σ h => G x (σ 2) h) = n3 k G (σ 1) h := (kseq (b := c4) rfl (fun σ h => n4_eq k G σ h)).trans (n5_eq k (fun x v2 h => kx x (n4 k G v2 h) (G x v2 h)) σ h)
noncomputable def c6 : Code := cL c2
noncomputable def c7 : Code := cR c6
noncomputable def c8 : Code := cL c7
noncomputable def c9 : Code := cL c8
noncomputable def c10 : Code := cR c9
noncomputable def c11 : Code := cR c10
noncomputable def c12 : Code := cR c11
@[simp] def n12 {R : Type} (k : Nat) (G : GX → GV → GV → GV → GV → GV → Heap → Option R) (v1 : GV) (v2 : GV) (v13 : GV) (v14 : GV) (v15 : GV) (h : Heap) : Option R := (kbin .add v15 (.int .i64 1)).bind fun v44 => G .nrm v1 v2 v13 v14 v44 h
theorem n12_eq {R : Type} (k : Nat) (G : GX → GV → GV → GV → GV → GV → Heap → Option R) (σ : GS) (h : Heap) : KC k 67 c12 σ h (fun x σ h => G x (σ 1) (σ 2) (σ 13) (σ 14) (σ 15) h) = n12 k G (σ 1) (σ 2) (σ 13) (σ 14) (σ 15) h := by kernel_rfl
noncomputable def c13 : Code := cL c11
noncomputable def c14 : Code := cL c13
noncomputable def c15 : Code := cR c14
noncomputable def c16 : Code := cR c15
@[simp] def n16 {R : Type} (k : Nat) (G : GX → GV → GV → GV → GV → GV → Heap → Option R) (v1 : GV) (v2 : GV) (v13 : GV) (v14 : GV) (v15 : GV) (v43 : GV) (h : Heap) : Option R := kcond v43 (G .ret v1 (.bool false) v13 v14 v15 h) (G .nrm v1 v2 v13 v14 v15 h)
theorem n16_eq {R : Type} (k : Nat) (G : GX → GV → GV → GV → GV → GV → Heap → Option R) (σ : GS) (h : Heap) : KC k 67 c16 σ h (fun x σ h => G x (σ 1) (σ 2) (σ 13) (σ 14) (σ 15) h) = n16 k G (σ 1) (σ 2) (σ 13) (σ 14) (σ 15) (σ 43) h := by kernel_rfl
noncomputable def c17 : Code := cL c15
noncomputable def o17 : Array Oper := cO c17
@[simp] def g17_4 {R : Type} (k : Nat) (G : GX → GV → GV → GV → GV → GV → GV → Heap → Option R) (v1 : GV) (v2 : GV) (v13 : GV) (v14 : GV) (v15 : GV) (v30 : GV) (v42 : GV) (h : Heap) : Option R := (kpick v30 (.bool true) v42).bind fun v43 => G .nrm v1 v2 v13 v14 v15 v43 h
theorem g17_4_eq {R : Type} (k : Nat) (G : GX → GV → GV → GV → GV → GV → GV → Heap → Option R) (σ : GS) (h : Heap) : kgroups PP cfg NN HH 67 o17 [(none, [23])] σ h (fun σ h => G .nrm (σ 1) (σ 2) (σ 13) (σ 14) (σ 15) (σ 43) h) = g17_4 k G (σ 1) (σ 2) (σ 13) (σ 14) (σ 15) (σ 30) (σ 42) h := by kernel_rfl
@[simp] def g17_3 {R : Type} (k : Nat) (G : GX → GV → GV → GV → GV → GV → GV → Heap → Option R) (v1 : GV) (v2 : GV) (v13 : GV) (v14 : GV) (v15 : GV) (v30 : GV) (v33 : GV) (v41 : GV) (h : Heap) : Option R := bif tr false v30 then (kpick v33 v41 (.bool false)).bind fun v42 => g17_4 k G v1 v2 v13 v14 v15 v30 v42 h else g17_4 k G v1 v2 v13 v14 v15 v30 .un h
theorem g17_3_eq0 {R : Type} (k : Nat) (G : GX → GV → GV → GV → GV → GV → GV → Heap → Option R) (σ : GS) (h : Heap) : kgroup1 PP cfg NN HH 67 o17 (some (10, false), [22]) σ h (fun σ h => g17_4 k G (σ 1) (σ 2) (σ 13) (σ 14) (σ 15) (σ 30) (σ 42) h) = g17_3 k G (σ 1) (σ 2) (σ 13) (σ 14) (σ 15) (σ 30) (σ 33) (σ 41) h := by kernel_rfl
theorem g17_3_eq {R : Type} (k : Nat) (G : GX → GV → GV → GV → GV → GV → GV → Heap → Option R) (σ : GS) (h : Heap) : kgroups PP cfg NN HH 67 o17 [(some (10, false), [22]), (none, [23])] σ h (fun σ h => G .nrm (σ 1) (σ 2) (σ 13) (σ 14) (σ 15) (σ 43) h) = g17_3 k G (σ 1) (σ 2) (σ 13) (σ 14) (σ 15) (σ 30) (σ 33) (σ 41) h := (kgroups_cons (fun σ h => g17_4_eq k G σ h)).trans (g17_3_eq0 k G σ h)
@[simp] def g17_2 {R : Type} (k : Nat) (G : GX → GV → GV → GV → GV → GV → GV → Heap → Option R) (v1 : GV) (v2 : GV) (v3 : GV) (v4 : GV) (v13 : GV) (v14 : GV) (v15 : GV) (v30 : GV) (v33 : GV) (h : Heap) : Option R := bif tr true v33 then (kfa 1 v1).bind fun v34 => (kload1 h v34).bind fun v35 => (kbin .sub v3 (.int .i64 1)).bind fun v37 => (kia 1 v35 v37).bind fun v38 => (kload1 h v38).bind fun v39 => (kbin .geq v39 v4).bind fun v41 => g17_3 k G v1 v2 v13 v14 v15 v30 v33 v41 h else g17_3 k G v1 v2 v13 v14 v15 v30 v33 .un h
theorem g17_2_eq0 {R : Type} (k : Nat) (G : GX → GV → GV → GV → GV → GV → GV → Heap → Option R) (σ : GS) (h : Heap) : kgroup1 PP cfg NN HH 67 o17 (some (13, true), [14, 15, 16, 17, 18, 19, 20, 21]) σ h (fun σ h => g17_3 k G (σ 1) (σ 2) (σ 13) (σ 14) (σ 15) (σ 30) (σ 33) (σ 41) h) = g17_2 k G (σ 1) (σ 2) (σ 3) (σ 4) (σ 13) (σ 14) (σ 15) (σ 30) (σ 33) h := by kernel_rfl
theorem g17_2_eq {R : Type} (k : Nat) (G : GX → GV → GV → GV → GV → GV → GV → Heap → Option R) (σ : GS) (h : Heap) : kgroups PP cfg NN HH 67 o17 [(some (13, true), [14, 15, 16, 17, 18, 19, 20, 21]), (some (10, false), [22]), (none, [23])] σ h (fun σ h => G .nrm (σ 1) (σ 2) (σ 13) (σ 14) (σ 15) (σ 43) h) = g17_2 k G (σ 1) (σ 2) (σ 3) (σ 4) (σ 13) (σ 14) (σ 15) (σ 30) (σ 33) h := (kgroups_cons (fun σ h => g17_3_eq k G σ h)).trans (g17_2_eq0 k G σ h)
@[simp] def g17_1 {R : Type} (k : Nat) (G : GX → GV → GV → GV → GV → GV → GV → Heap → Option R) (v1 : GV) (v2 : GV) (v3 : GV) (v4 : GV) (v13 : GV) (v14 : GV) (v15 : GV) (v30 : GV) (h : Heap) : Option R := bif tr false v30 then (kbin .gtr v3 (.int .i64 0)).bind fun v32 => g17_2 k G v1 v2 v3 v4 v13 v14 v15 v30 v32 h else g17_2 k G v1 v2 v3 v4 v13 v14 v15 v30 .un h
theorem g17_1_eq0 {R : Type} (k : Nat) (G : GX → GV → GV → GV → GV → GV → GV → Heap → Option R) (σ : GS) (h : Heap) : kgroup1 PP cfg NN HH 67 o17 (some (10, false), [11, 12, 13]) σ h (fun σ h => g17_2 k G (σ 1) (σ 2) (σ 3) (σ 4) (σ 13) (σ 14) (σ 15) (σ 30) (σ 33) h) = g17_1 k G (σ 1) (σ 2) (σ 3) (σ 4) (σ 13) (σ 14) (σ 15) (σ 30) h := by kernel_rfl
theorem g17_1_eq {R : Type} (k : Nat) (G : GX → GV → GV → GV → GV → GV → GV → Heap → Option R) (σ : GS) (h : Heap) : kgroups PP cfg NN HH 67 o17 [(some (10, false), [11, 12, 13]), (some (13, true), [14, 15, 16, 17, 18, 19, 20, 21]), (some (10, false), [22]), (none, [23])] σ h (fun σ h => G .nrm (σ 1) (σ 2) (σ 13) (σ 14) (σ 15) (σ 43) h) = g17_1 k G (σ 1) (σ 2) (σ 3) (σ 4) (σ 13) (σ 14) (σ 15) (σ 30) h := (kgroups_cons (fun σ h => g17_2_eq k G σ h)).trans (g17_1_eq0 k G σ h)
@[simp] def g17_0 {R : Type} (k : Nat) (G : GX → GV → GV → GV → GV → GV → GV → Heap → Option R) (v1 : GV) (v2 : GV) (v3 : GV) (v4 : GV) (v13 : GV) (v14 : GV) (v15 : GV) (h : Heap) : Option R := (kfa 0 v1).bind fun v21 => (kload1 h v21).bind fun v22 => (kbin .sub v22 (.int .i64 32)).bind fun v23 => (kbin .add v23 (.int .i64 1)).bind fun v24 => (gmax (.int .i64 0) v24).bind fun v25 => (kfa 0 v1).bind fun v26 => (kload1 h v26).bind fun v27 => (kN NN fn.impl_in [v4, v25, v27] h).bind fun v28 => (kun .not v28).bind fun v29 => g17_1 k G v1 v2 v3 v4 v13 v14 v15 v29 h
theorem g17_0_eq0 {R : Type} (k : Nat) (G : GX → GV → GV → GV → GV → GV → GV → Heap → Option R) (σ : GS) (h : Heap) : kgroup1 PP cfg NN HH 67 o17 (none, [0, 1, 2, 3, 4, 5, 6, 7, 8, 9, 10]) σ h (fun σ h => g17_1 k G (σ 1) (σ 2) (σ 3) (σ 4) (σ 13) (σ 14) (σ 15) (σ 30) h) = g17_0 k G (σ 1) (σ 2) (σ 3) (σ 4) (σ 13) (σ 14) (σ 15) h := by kernel_rfl
theorem g17_0_eq {R : Type} (k : Nat) (G : GX → GV → GV → GV → GV → GV → GV → Heap → Option R) (σ : GS) (h : Heap) : kgroups PP cfg NN HH 67 o17 [(none, [0, 1, 2, 3, 4, 5, 6, 7, 8, 9, 10]), (some (10, false), [11, 12, 13]), (some (13, true), [14, 15, 16, 17, 18, 19, 20, 21]), (some (10, false), [22]), (none, [23])] σ h (fun σ h => G .nrm (σ 1) (σ 2) (σ 13) (σ 14) (σ 15) (σ 43) h) = g17_0 k G (σ 1) (σ 2) (σ 3) (σ 4) (σ 13) (σ 14) (σ 15) h := (kgroups_cons (fun σ h => g17_1_eq k G σ h)).trans (g17_0_eq0 k G σ h)
@[simp] def n17 {R : Type} (k : Nat) (G : GX → GV → GV → GV → GV → GV → GV → Heap → Option R) (v1 : GV) (v2 : GV) (v3 : GV) (v4 : GV) (v13 : GV) (v14 : GV) (v15 : GV) (h : Heap) : Option R := g17_0 k G v1 v2 v3 v4 v13 v14 v15 h
theorem n17_eq {R : Type} (k : Nat) (G : GX → GV → GV → GV → GV → GV → GV → Heap → Option R) (σ : GS) (h : Heap) : KC k 67 c17 σ h (fun x σ h => G x (σ 1) (σ 2) (σ 13) (σ 14) (σ 15) (σ 43) h) = n17 k G (σ 1) (σ 2) (σ 3) (σ 4) (σ 13) (σ 14) (σ 15) h := (kregion_eq (id := 6) (draw := false) (ops := o17) (gs := [(none, [0, 1, 2, 3, 4, 5, 6, 7, 8, 9, 10]), (some (10, false), [11, 12, 13]), (some (13, true), [14, 15, 16, 17, 18, 19, 20, 21]), (some (10, false), [22]), (none, [23])]) (by kernel_rfl) (by kernel_rfl) (by kernel_rfl)).trans (g17_0_eq k G σ h)
@[simp] def n15 {R : Type} (k : Nat) (G : GX → GV → GV → GV → GV → GV → Heap → Option R) (v1 : GV) (v2 : GV) (v3 : GV) (v4 : GV) (v13 : GV) (v14 : GV) (v15 : GV) (h : Heap) : Option R := n17 k (fun x v1 v2 v13 v14 v15 v43 h => kx x (n16 k G v1 v2 v13 v14 v15 v43 h) (G x v1 v2 v13 v14 v15 h)) v1 v2 v3 v4 v13 v14 v15 h
theorem n15_eq {R : Type} (k : Nat) (G : GX → GV → GV → GV → GV → GV → Heap → Option R) (σ : GS) (h : Heap) : KC k 67 c15 σ h (fun x σ h => G x (σ 1) (σ 2) (σ 13) (σ 14) (σ 15) h) = n15 k G (σ 1) (σ 2) (σ 3) (σ 4) (σ 13) (σ 14) (σ 15) h := (kseq (b := c16) rfl (fun σ h => n16_eq k G σ h)).trans (n17_eq k (fun x v1 v2 v13 v14 v15 v43 h => kx x (n16 k G v1 v2 v13 v14 v15 v43 h) (G x v1 v2 v13 v14 v15 h)) σ h)
noncomputable def c18 : Code := cL c14
@[simp] def n14 {R : Type} (k : Nat) (G : GX → GV → GV → GV → GV → GV → Heap → Option R) (v1 : GV) (v2 : GV) (v13 : GV) (v14 : GV) (v15 : GV) (h : Heap) : Option R := (kia 1 v13 v15).bind fun v18 => (kload1 h v18).bind fun v19 => n15 k G v1 v2 v15 v19 v13 v14 v15 h
theorem n14_eq0 {R : Type} (k : Nat) (G : GX → GV → GV → GV → GV → GV → Heap → Option R) (σ : GS) (h : Heap) : KC k 67 c18 σ h (fun x σ h => kx x (n15 k G (σ 1) (σ 2) (σ 3) (σ 4) (σ 13) (σ 14) (σ 15) h) (G x (σ 1) (σ 2) (σ 13) (σ 14) (σ 15) h)) = n14 k G (σ 1) (σ 2) (σ 13) (σ 14) (σ 15) h := by kernel_rfl
theorem n14_eq {R : Type} (k : Nat) (G : GX → GV → GV → GV → GV → GV → Heap → Option R) (σ : GS) (h : Heap) : KC k 67 c14 σ h (fun x σ h => G x (σ 1) (σ 2) (σ 13) (σ 14) (σ 15) h) = n14 k G (σ 1) (σ 2) (σ 13) (σ 14) (σ 15) h := (kseq (b := c15) rfl (fun σ h => n15_eq k G σ h)).trans (n14_eq0 k G σ h)
@[simp] def n13 {R : Type} (k : Nat) (G : GX → GV → GV → GV → GV → GV → Heap → Option R) (v1 : GV) (v2 : GV) (v13 : GV) (v14 : GV) (v15 : GV) (h : Heap) : Option R := n14 k (fun x v1 v2 v13 v14 v15 h => kb 1 x fun x => G x v1 v2 v13 v14 v15 h) v1 v2 v13 v14 v15 h
theorem n13_eq {R : Type} (k : Nat) (G : GX → GV → GV → GV → GV → GV → Heap → Option R) (σ : GS) (h : Heap) : KC k 67 c13 σ h (fun x σ h => G x (σ 1) (σ 2) (σ 13) (σ 14) (σ 15) h) = n13 k G (σ 1) (σ 2) (σ 13) (σ 14) (σ 15) h := (kblock_eq (a := c14) rfl).trans (n14_eq k (fun x v1 v2 v13 v14 v15 h => kb 1 x fun x => G x v1 v2 v13 v14 v15 h) σ h)
@[simp] def n11 {R : Type} (k : Nat) (G : GX → GV → GV → GV → GV → GV → Heap → Option R) (v1 : GV) (v2 : GV) (v13 : GV) (v14 : GV) (v15 : GV) (h : Heap) : Option R := n13 k (fun x v1 v2 v13 v14 v15 h => kx x (n12 k G v1 v2 v13 v14 v15 h) (G x v1 v2 v13 v14 v15 h)) v1 v2 v13 v14 v15 h
theorem n11_eq {R : Type} (k : Nat) (G : GX → GV → GV → GV → GV → GV → Heap → Option R) (σ : GS) (h : Heap) : KC k 67 c11 σ h (fun x σ h => G x (σ 1) (σ 2) (σ 13) (σ 14) (σ 15) h) = n11 k G (σ 1) (σ 2) (σ 13) (σ 14) (σ 15) h := (kseq (b := c12) rfl (fun σ h => n12_eq k G σ h)).trans (n13_eq k (fun x v1 v2 v13 v14 v15 h => kx x (n12 k G v1 v2 v13 v14 v15 h) (G x v1 v2 v13 v14 v15 h)) σ h)
noncomputable def c19 : Code := cL c10
@[simp] def n10 {R : Type} (k : Nat) (G : GX → GV → GV → GV → GV → GV → Heap → Option R) (v1 : GV) (v2 : GV) (v13 : GV) (v14 : GV) (v15 : GV) (v16 : GV) (h : Heap) : Option R := kcond v16 (n11 k G v1 v2 v13 v14 v15 h) (G (.ext 0) v1 v2 v13 v14 v15 h)
theorem n10_eq0 {R : Type} (k : Nat) (G : GX → GV → GV → GV → GV → GV → Heap → Option R) (σ : GS) (h : Heap) : KC k 67 c19 σ h (fun x σ h => kx x (n11 k G (σ 1) (σ 2) (σ 13) (σ 14) (σ 15) h) (G x (σ 1) (σ 2) (σ 13) (σ 14) (σ 15) h)) = n10 k G (σ 1) (σ 2) (σ 13) (σ 14) (σ 15) (σ 16) h := by kernel_rfl
theorem n10_eq {R : Type} (k : Nat) (G : GX → GV → GV → GV → GV → GV → Heap → Option R) (σ : GS) (h : Heap) : KC k 67 c10 σ h (fun x σ h => G x (σ 1) (σ 2) (σ 13) (σ 14) (σ 15) h) = n10 k G (σ 1) (σ 2) (σ 13) (σ 14) (σ 15) (σ 16) h := (kseq (b := c11) rfl (fun σ h => n11_eq k G σ h)).trans (n10_eq0 k G σ h)
noncomputable def c20 : Code := cL c9
@[simp] def n9 {R : Type} (k : Nat) (G : GX → GV → GV → GV → GV → GV → Heap → Option R) (v1 : GV) (v2 : GV) (v13 : GV) (v14 : GV) (v15 : GV) (h : Heap) : Option R := (kbin .lss v15 v14).bind fun v16 => n10 k G v1 v2 v13 v14 v15 v16 h
theorem n9_eq0 {R : Type} (k : Nat) (G : GX → GV → GV → GV → GV → GV → Heap → Option R) (σ : GS) (h : Heap) : KC k 67 c20 σ h (fun x σ h => kx x (n10 k G (σ 1) (σ 2) (σ 13) (σ 14) (σ 15) (σ 16) h) (G x (σ 1) (σ 2) (σ 13) (σ 14) (σ 15) h)) = n9 k G (σ 1) (σ 2) (σ 13) (σ 14) (σ 15) h := by kernel_rfl
theorem n9_eq {R : Type} (k : Nat) (G : GX → GV → GV → GV → GV → GV → Heap → Option R) (σ : GS) (h : Heap) : KC k 67 c9 σ h (fun x σ h => G x (σ 1) (σ 2) (σ 13) (σ 14) (σ 15) h) = n9 k G (σ 1) (σ 2) (σ 13) (σ 14) (σ 15) h := (kseq (b := c10) rfl (fun σ h => n10_eq k G σ h)).trans (n9_eq0 k G σ h)
def l8 {R : Type} (k : Nat) (G : GX → GV → GV → Heap → Option R) : Nat → GV → GV → GV → GV → GV → Heap → Option R
  | 0, _, _, _, _, _, _ => none
  | r + 1, v1, v2, v13, v14, v15, h => n9 k (fun x v1 v2 v13 v14 v15 h => kx x (l8 k G r v1 v2 v13 v14 v15 h) (G x v1 v2 h)) v1 v2 v13 v14 v15 h
theorem l8_eq {R : Type} (k : Nat) (G : GX → GV → GV → Heap → Option R) : ∀ (r : Nat) (σ : GS) (h : Heap), kloop (fun σ h K => KC k 67 c9 σ h K) r σ h (fun x σ h => G x (σ 1) (σ 2) h) = l8 k G r (σ 1) (σ 2) (σ 13) (σ 14) (σ 15) h
  | 0, _, _ => rfl
  | r + 1, σ, h => (kloop_eq (fun σ h => l8_eq k G r σ h)).trans (n9_eq k (fun x v1 v2 v13 v14 v15 h => kx x (l8 k G r v1 v2 v13 v14 v15 h) (G x v1 v2 h)) σ h)
@[simp] def n8 {R : Type} (k : Nat) (G : GX → GV → GV → Heap → Option R) (v1 : GV) (v2 : GV) (v13 : GV) (v14 : GV) (v15 : GV) (h : Heap) : Option R := l8 k G k v1 v2 v13 v14 v15 h
theorem n8_eq {R : Type} (k : Nat) (G : GX → GV → GV → Heap → Option R) (σ : GS) (h : Heap) : KC k 67 c8 σ h (fun x σ h => G x (σ 1) (σ 2) h) = n8 k G (σ 1) (σ 2) (σ 13) (σ 14) (σ 15) h := (kloopc_eq (a := c9) rfl).trans (l8_eq k G k σ h)
@[simp] def n7 {R : Type} (k : Nat) (G : GX → GV → GV → Heap → Option R) (v1 : GV) (v2 : GV) (v13 : GV) (v14 : GV) (v15 : GV) (h : Heap) : Option R := n8 k (fun x v1 v2 h => kb 0 x fun x => G x v1 v2 h) v1 v2 v13 v14 v15 h
theorem n7_eq {R : Type} (k : Nat) (G : GX → GV → GV → Heap → Option R) (σ : GS) (h : Heap) : KC k 67 c7 σ h (fun x σ h => G x (σ 1) (σ 2) h) = n7 k G (σ 1) (σ 2) (σ 13) (σ 14) (σ 15) h := (kblock_eq (a := c8) rfl).trans (n8_eq k (fun x v1 v2 h => kb 0 x fun x => G x v1 v2 h) σ h)
noncomputable def c21 : Code := cL c6
@[simp] def n6 {R : Type} (k : Nat) (G : GX → GV → GV → Heap → Option R) (v1 : GV) (v2 : GV) (h : Heap) : Option R := (kfa 1 v1).bind fun v12 => (kload1 h v12).bind fun v13 => (klen v13).bind fun v14 => n7 k G v1 v2 v13 v14 (.int .i64 0) h
theorem n6_eq0 {R : Type} (k : Nat) (G : GX → GV → GV → Heap → Option R) (σ : GS) (h : Heap) : KC k 67 c21 σ h (fun x σ h => kx x (n7 k G (σ 1) (σ 2) (σ 13) (σ 14) (σ 15) h) (G x (σ 1) (σ 2) h)) = n6 k G (σ 1) (σ 2) h := by kernel_rfl
theorem n6_eq {R : Type} (k : Nat) (G : GX → GV → GV → Heap → Option R) (σ : GS) (h : Heap) : KC k 67 c6 σ h (fun x σ h => G x (σ 1) (σ 2) h) = n6 k G (σ 1) (σ 2) h := (kseq (b := c7) rfl (fun σ h => n7_eq k G σ h)).trans (n6_eq0 k G σ h)
@[simp] def n2 {R : Type} (k : Nat) (G : GX → GV → Heap → Option R) (v1 : GV) (v2 : GV) (h : Heap) : Option R := n6 k (fun x v1 v2 h => kx x (n3 k G v1 h) (G x v2 h)) v1 v2 h
theorem n2_eq {R : Type} (k : Nat) (G : GX → GV → Heap → Option R) (σ : GS) (h : Heap) : KC k 67 c2 σ h (fun x σ h => G x (σ 2) h) = n2 k G (σ 1) (σ 2) h := (kseq (b := c3) rfl (fun σ h => n3_eq k G σ h)).trans (n6_eq k (fun x v1 v2 h => kx x (n3 k G v1 h) (G x v2 h)) σ h)
noncomputable def c22 : Code := cL c1
@[simp] def n1 {R : Type} (k : Nat) (G : GX → GV → Heap → Option R) (v1 : GV) (v2 : GV) (h : Heap) : Option R := (kfa 0 v1).bind fun v5 => (kload1 h v5).bind fun v6 => (kbin .eql v6 (.int .i64 (-1))).bind fun v7 => kcond v7 ((kfa 1 v1).bind fun v8 => (kload1 h v8).bind fun v9 => (klen v9).bind fun v10 => (kbin .eql v10 (.int .i64 0)).bind fun v11 => G .ret v11 h) (n2 k G v1 v2 h)
theorem n1_eq0 {R : Type} (k : Nat) (G : GX → GV → Heap → Option R) (σ : GS) (h : Heap) : KC k 67 c22 σ h (fun x σ h => kx x (n2 k G (σ 1) (σ 2) h) (G x (σ 2) h)) = n1 k G (σ 1) (σ 2) h := by kernel_rfl
theorem n1_eq {R : Type} (k : Nat) (G : GX → GV → Heap → Option R) (σ : GS) (h : Heap) : KC k 67 c1 σ h (fun x σ h => G x (σ 2) h) = n1 k G (σ 1) (σ 2) h := (kseq (b := c2) rfl (fun σ h => n2_eq k G σ h)).trans (n1_eq0 k G σ h)
noncomputable def c23 : Code := cL c0
@[simp] def n0 {R : Type} (k : Nat) (G : GX → GV → Heap → Option R) (v0 : GV) (h : Heap) : Option R := kbox v0 h fun v1 h => n1 k G v1 (.bool false) h
theorem n0_eq0 {R : Type} (k : Nat) (G : GX → GV → Heap → Option R) (σ : GS) (h : Heap) : KC k 67 c23 σ h (fun x σ h => kx x (n1 k G (σ 1) (σ 2) h) (G x (σ 2) h)) = n0 k G (σ 0) h := by kernel_rfl
theorem n0_eq {R : Type} (k : Nat) (G : GX → GV → Heap → Option R) (σ : GS) (h : Heap) : KC k 67 c0 σ h (fun x σ h => G x (σ 2) h) = n0 k G (σ 0) h := (kseq (b := c1) rfl (fun σ h => n1_eq k G σ h)).trans (n0_eq0 k G σ h)
def run {R : Type} (k : Nat) (a0 : GV) (h : Heap) (fin : GV → Heap → Option R) : Option R := n0 k (fun x v2 h => kend x (fin v2 h)) a0 h
theorem run_eq {R : Type} (k : Nat) (a0 : GV) (h : Heap) (fin : GV → Heap → Option R) : kfun PP cfg NN HH k fn.impl_WindowOk [a0] h fin = run k a0 h fin := (kfun_eq (nt := 67) (c := c0) (show PP.funcs[fn.impl_WindowOk]? = some Try.f23 by kernel_rfl) (by kernel_rfl) (by kernel_rfl) (fun x σ h => by cases x <;> kernel_rfl)).trans (n0_eq k (fun x v2 h => kend x (fin v2 h)) _ h)
theorem gives {k : Nat} {a0 : GV} {v : GV} (e : run k a0 [] finN = some v) : NN fn.impl_WindowOk [a0] = some v := nω_of (by kernel_rfl) ((run_eq k a0 [] finN).trans e)
end S.impl_WindowOk
/-! laws_eqInt64S -/
namespace S.laws_eqInt64S
noncomputable def c0 : Code := bodyOf Try.f56
noncomputable def c1 : Code := cR c0
noncomputable def c2 : Code := cR c1
noncomputable def c3 : Code := cR c2
@[simp] def n3 {R : Type} (k : Nat) (G : GX → GV → Heap → Option R) (h : Heap) : Option R := G .ret (.bool true) h
theorem n3_eq {R : Type} (k : Nat) (G : GX → GV → Heap → Option R) (σ : GS) (h : Heap) : KC k 26 c3 σ h (fun x σ h => G x (σ 4) h) = n3 k G h := by kernel_rfl
noncomputable def c4 : Code := cL c2
noncomputable def c5 : Code := cR c4
noncomputable def c6 : Code := cL c5
noncomputable def c7 : Code := cL c6
noncomputable def c8 : Code := cR c7
noncomputable def c9 : Code := cR c8
@[simp] def n9 {R : Type} (k : Nat) (G : GX → GV → GV → GV → GV → Heap → Option R) (v0 : GV) (v1 : GV) (v4 : GV) (v5 : GV) (h : Heap) : Option R := (kbin .add v5 (.int .i64 1)).bind fun v16 => G .nrm v0 v1 v4 v16 h
theorem n9_eq {R : Type} (k : Nat) (G : GX → GV → GV → GV → GV → Heap → Option R) (σ : GS) (h : Heap) : KC k 26 c9 σ h (fun x σ h => G x (σ 0) (σ 1) (σ 4) (σ 5) h) = n9 k G (σ 0) (σ 1) (σ 4) (σ 5) h := by kernel_rfl
noncomputable def c10 : Code := cL c8
noncomputable def c11 : Code := cL c10
@[simp] def n11 {R : Type} (k : Nat) (G : GX → GV → GV → GV → GV → Heap → Option R) (v0 : GV) (v1 : GV) (v4 : GV) (v5 : GV) (h : Heap) : Option R := (kia 1 v0 v5).bind fun v19 => (kload1 h v19).bind fun v20 => (kia 1 v1 v5).bind fun v23 => (kload1 h v23).bind fun v24 => (kbin .neq v20 v24).bind fun v25 => kcond v25 (G .ret v0 v1 (.bool false) v5 h) (G .nrm v0 v1 v4 v5 h)
theorem n11_eq {R : Type} (k : Nat) (G : GX → GV → GV → GV → GV → Heap → Option R) (σ : GS) (h : Heap) : KC k 26 c11 σ h (fun x σ h => G x (σ 0) (σ 1) (σ 4) (σ 5) h) = n11 k G (σ 0) (σ 1) (σ 4) (σ 5) h := by kernel_rfl
@[simp] def n10 {R : Type} (k : Nat) (G : GX → GV → GV → GV → GV → Heap → Option R) (v0 : GV) (v1 : GV) (v4 : GV) (v5 : GV) (h : Heap) : Option R := n11 k (fun x v0 v1 v4 v5 h => kb 1 x fun x => G x v0 v1 v4 v5 h) v0 v1 v4 v5 h
theorem n10_eq {R : Type} (k : Nat) (G : GX → GV → GV → GV → GV → Heap → Option R) (σ : GS) (h : Heap) : KC k 26 c10 σ h (fun x σ h => G x (σ 0) (σ 1) (σ 4) (σ 5) h) = n10 k G (σ 0) (σ 1) (σ 4) (σ 5) h := (kblock_eq (a := c11) rfl).trans (n11_eq k (fun x v0 v1 v4 v5 h => kb 1 x fun x => G x v0 v1 v4 v5 h) σ h)
@[simp] def n8 {R : Type} (k : Nat) (G : GX → GV → GV → GV → GV → Heap → Option R) (v0 : GV) (v1 : GV) (v4 : GV) (v5 : GV) (h : Heap) : Option R := n10 k (fun x v0 v1 v4 v5 h => kx x (n9 k G v0 v1 v4 v5 h) (G x v0 v1 v4 v5 h)) v0 v1 v4 v5 h
theorem n8_eq {R : Type} (k : Nat) (G : GX → GV → GV → GV → GV → Heap → Option R) (σ : GS) (h : Heap) : KC k 26 c8 σ h (fun x σ h => G x (σ 0) (σ 1) (σ 4) (σ 5) h) = n8 k G (σ 0) (σ 1) (σ 4) (σ 5) h := (kseq (b := c9) rfl (fun σ h => n9_eq k G σ h)).trans (n10_eq k (fun x v0 v1 v4 v5 h => kx x (n9 k G v0 v1 v4 v5 h) (G x v0 v1 v4 v5 h)) σ h)
noncomputable def c12 : Code := cL c7
@[simp] def n7 {R : Type} (k : Nat) (G : GX → GV → GV → GV → GV → Heap → Option R) (v0 : GV) (v1 : GV) (v4 : GV) (v5 : GV) (h : Heap) : Option R := (klen v0).bind fun v13 => (kbin .lss v5 v13).bind fun v14 => kcond v14 (n8 k G v0 v1 v4 v5 h) (G (.ext 0) v0 v1 v4 v5 h)
theorem n7_eq0 {R : Type} (k : Nat) (G : GX → GV → GV → GV → GV → Heap → Option R) (σ : GS) (h : Heap) : KC k 26 c12 σ h (fun x σ h => kx x (n8 k G (σ 0) (σ 1) (σ 4) (σ 5) h) (G x (σ 0) (σ 1) (σ 4) (σ 5) h)) = n7 k G (σ 0) (σ 1) (σ 4) (σ 5) h := by kernel_rfl
theorem n7_eq {R : Type} (k : Nat) (G : GX → GV → GV → GV → GV → Heap → Option R) (σ : GS) (h : Heap) : KC k 26 c7 σ h (fun x σ h => G x (σ 0) (σ 1) (σ 4) (σ 5) h) = n7 k G (σ 0) (σ 1) (σ 4) (σ 5) h := (kseq (b := c8) rfl (fun σ h => n8_eq k G σ h)).trans (n7_eq0 k G σ h)
def l6 {R : Type} (k : Nat) (G : GX → GV → Heap → Option R) : Nat → GV → GV → GV → GV → Heap → Option R
  | 0, _, _, _, _, _ => none
  | r + 1, v0, v1, v4, v5, h => n7 k (fun x v0 v1 v4 v5 h => kx x (l6 k G r v0 v1 v4 v5 h) (G x v4 h)) v0 v1 v4 v5 h
theorem l6_eq {R : Type} (k : Nat) (G : GX → GV → Heap → Option R) : ∀ (r : Nat) (σ : GS) (h : Heap), kloop (fun σ h K => KC k 26 c7 σ h K) r σ h (fun x σ h => G x (σ 4) h) = l6 k G r (σ 0) (σ 1) (σ 4) (σ 5) h
  | 0, _, _ => rfl
  | r + 1, σ, h => (kloop_eq (fun σ h => l6_eq k G r σ h)).trans (n7_eq k (fun x v0 v1 v4 v5 h => kx x (l6 k G r v0 v1 v4 v5 h) (G x v4 h)) σ h)
@[simp] def n6 {R : Type} (k : Nat) (G : GX → GV → Heap → Option R) (v0 : GV) (v1 : GV) (v4 : GV) (v5 : GV) (h : Heap) : Option R := l6 k G k v0 v1 v4 v5 h
theorem n6_eq {R : Type} (k : Nat) (G : GX → GV → Heap → Option R) (σ : GS) (h : Heap) : KC k 26 c6 σ h (fun x σ h => G x (σ 4) h) = n6 k G (σ 0) (σ 1) (σ 4) (σ 5) h := (kloopc_eq (a := c7) rfl).trans (l6_eq k G k σ h)
@[simp] def n5 {R : Type} (k : Nat) (G : GX → GV → Heap → Option R) (v0 : GV) (v1 : GV) (v4 : GV) (v5 : GV) (h : Heap) : Option R := n6 k (fun x v4 h => kb 0 x fun x => G x v4 h) v0 v1 v4 v5 h
theorem n5_eq {R : Type} (k : Nat) (G : GX → GV → Heap → Option R) (σ : GS) (h : Heap) : KC k 26 c5 σ h (fun x σ h => G x (σ 4) h) = n5 k G (σ 0) (σ 1) (σ 4) (σ 5) h := (kblock_eq (a := c6) rfl).trans (n6_eq k (fun x v4 h => kb 0 x fun x => G x v4 h) σ h)
noncomputable def c13 : Code := cL c4
@[simp] def n4 {R : Type} (k : Nat) (G : GX → GV → Heap → Option R) (v0 : GV) (v1 : GV) (v4 : GV) (h : Heap) : Option R := n5 k G v0 v1 v4 (.int .i64 0) h
theorem n4_eq0 {R : Type} (k : Nat) (G : GX → GV → Heap → Option R) (σ : GS) (h : Heap) : KC k 26 c13 σ h (fun x σ h => kx x (n5 k G (σ 0) (σ 1) (σ 4) (σ 5) h) (G x (σ 4) h)) = n4 k G (σ 0) (σ 1) (σ 4) h := by kernel_rfl
theorem n4_eq {R : Type} (k : Nat) (G : GX → GV → Heap → Option R) (σ : GS) (h : Heap) : KC k 26 c4 σ h (fun x σ h => G x (σ 4) h) = n4 k G (σ 0) (σ 1) (σ 4) h := (kseq (b := c5) rfl (fun σ h => n5_eq k G σ h)).trans (n4_eq0 k G σ h)
@[simp] def n2 {R : Type} (k : Nat) (G : GX → GV → Heap → Option R) (v0 : GV) (v1 : GV) (v4 : GV) (h : Heap) : Option R := n4 k (fun x v4 h => kx x (n3 k G h) (G x v4 h)) v0 v1 v4 h
theorem n2_eq {R : Type} (k : Nat) (G : GX → GV → Heap → Option R) (σ : GS) (h : Heap) : KC k 26 c2 σ h (fun x σ h => G x (σ 4) h) = n2 k G (σ 0) (σ 1) (σ 4) h := (kseq (b := c3) rfl (fun σ h => n3_eq k G σ h)).trans (n4_eq k (fun x v4 h => kx x (n3 k G h) (G x v4 h)) σ h)
noncomputable def c14 : Code := cL c1
@[simp] def n1 {R : Type} (k : Nat) (G : GX → GV → Heap → Option R) (v0 : GV) (v1 : GV) (v4 : GV) (h : Heap) : Option R := (klen v0).bind fun v7 => (klen v1).bind fun v9 => (kbin .neq v7 v9).bind fun v10 => kcond v10 (G .ret (.bool false) h) (n2 k G v0 v1 v4 h)
theorem n1_eq0 {R : Type} (k : Nat) (G : GX → GV → Heap → Option R) (σ : GS) (h : Heap) : KC k 26 c14 σ h (fun x σ h => kx x (n2 k G (σ 0) (σ 1) (σ 4) h) (G x (σ 4) h)) = n1 k G (σ 0) (σ 1) (σ 4) h := by kernel_rfl
theorem n1_eq {R : Type} (k : Nat) (G : GX → GV → Heap → Option R) (σ : GS) (h : Heap) : KC k 26 c1 σ h (fun x σ h => G x (σ 4) h) = n1 k G (σ 0) (σ 1) (σ 4) h := (kseq (b := c2) rfl (fun σ h => n2_eq k G σ h)).trans (n1_eq0 k G σ h)
noncomputable def c15 : Code := cL c0
@[simp] def n0 {R : Type} (k : Nat) (G : GX → GV → Heap → Option R) (v0 : GV) (v1 : GV) (h : Heap) : Option R := n1 k G v0 v1 (.bool false) h
theorem n0_eq0 {R : Type} (k : Nat) (G : GX → GV → Heap → Option R) (σ : GS) (h : Heap) : KC k 26 c15 σ h (fun x σ h => kx x (n1 k G (σ 0) (σ 1) (σ 4) h) (G x (σ 4) h)) = n0 k G (σ 0) (σ 1) h := by kernel_rfl
theorem n0_eq {R : Type} (k : Nat) (G : GX → GV → Heap → Option R) (σ : GS) (h : Heap) : KC k 26 c0 σ h (fun x σ h => G x (σ 4) h) = n0 k G (σ 0) (σ 1) h := (kseq (b := c1) rfl (fun σ h => n1_eq k G σ h)).trans (n0_eq0 k G σ h)
def run {R : Type} (k : Nat) (a0 : GV) (a1 : GV) (h : Heap) (fin : GV → Heap → Option R) : Option R := n0 k (fun x v4 h => kend x (fin v4 h)) a0 a1 h
theorem run_eq {R : Type} (k : Nat) (a0 : GV) (a1 : GV) (h : Heap) (fin : GV → Heap → Option R) : kfun PP cfg NN HH k fn.laws_eqInt64S [a0, a1] h fin = run k a0 a1 h fin := (kfun_eq (nt := 26) (c := c0) (show PP.funcs[fn.laws_eqInt64S]? = some Try.f56 by kernel_rfl) (by kernel_rfl) (by kernel_rfl) (fun x σ h => by cases x <;> kernel_rfl)).trans (n0_eq k (fun x v4 h => kend x (fin v4 h)) _ h)
theorem gives {k : Nat} {a0 : GV} {a1 : GV} {v : GV} (e : run k a0 a1 [] finN = some v) : NN fn.laws_eqInt64S [a0, a1] = some v := nω_of (by kernel_rfl) ((run_eq k a0 a1 [] finN).trans e)
end S.laws_eqInt64S
/-! laws_eqWindow -/
namespace S.laws_eqWindow
noncomputable def c0 : Code := bodyOf Try.f24
@[simp] def n0 {R : Type} (k : Nat) (G : GX → GV → Heap → Option R) (v0 : GV) (v1 : GV) (h : Heap) : Option R := kbox v0 h fun v2 h => kbox v1 h fun v3 h => (kfa 0 v2).bind fun v5 => (kload1 h v5).bind fun v6 => (kfa 0 v3).bind fun v7 => (kload1 h v7).bind fun v8 => (kbin .neq v6 v8).bind fun v9 => kcond v9 (G .ret (.bool false) h) ((kfa 1 v2).bind fun v10 => (kload1 h v10).bind fun v11 => (kfa 1 v3).bind fun v12 => (kload1 h v12).bind fun v13 => (kN NN fn.laws_eqInt64S [v11, v13] h).bind fun v14 => (kun .not v14).bind fun v15 => kcond v15 (G .ret (.bool false) h) (G .ret (.bool true) h))
theorem n0_eq {R : Type} (k : Nat) (G : GX → GV → Heap → Option R) (σ : GS) (h : Heap) : KC k 16 c0 σ h (fun x σ h => G x (σ 4) h) = n0 k G (σ 0) (σ 1) h := by kernel_rfl
def run {R : Type} (k : Nat) (a0 : GV) (a1 : GV) (h : Heap) (fin : GV → Heap → Option R) : Option R := n0 k (fun x v4 h => kend x (fin v4 h)) a0 a1 h
theorem run_eq {R : Type} (k : Nat) (a0 : GV) (a1 : GV) (h : Heap) (fin : GV → Heap → Option R) : kfun PP cfg NN HH k fn.laws_eqWindow [a0, a1] h fin = run k a0 a1 h fin := (kfun_eq (nt := 16) (c := c0) (show PP.funcs[fn.laws_eqWindow]? = some Try.f24 by kernel_rfl) (by kernel_rfl) (by kernel_rfl) (fun x σ h => by cases x <;> kernel_rfl)).trans (n0_eq k (fun x v4 h => kend x (fin v4 h)) _ h)
theorem gives {k : Nat} {a0 : GV} {a1 : GV} {v : GV} (e : run k a0 a1 [] finN = some v) : NN fn.laws_eqWindow [a0, a1] = some v := nω_of (by kernel_rfl) ((run_eq k a0 a1 [] finN).trans e)
end S.laws_eqWindow
/-! laws_FnExactWindowOk -/
namespace S.laws_FnExactWindowOk
noncomputable def c0 : Code := bodyOf Try.f6
@[simp] def n0 {R : Type} (k : Nat) (G : GX → GV → Heap → Option R) (v0 : GV) (h : Heap) : Option R := kbox v0 h fun v1 h => (kloadA 2 h v1).bind fun v7 => (kN NN fn.laws_szWindow [v7, (.int .i64 1048576)] h).bind fun v9 => (kbin .lss v9 (.int .i64 0)).bind fun v11 => kcond v11 (G .ret (.bool true) h) ((kloadA 2 h v1).bind fun v12 => (kN NN fn.laws_toWindow [v12] h).bind fun v13 => (kN NN fn.spec_WindowOk [v13] h).bind fun v14 => (kloadA 2 h v1).bind fun v15 => (kN NN fn.laws_toWindow [v15] h).bind fun v16 => kalloc [(.int .i64 0), .nils] h fun v5 h => (kstore 2 h v5 v16).bind fun h => (kloadA 2 h v5).bind fun v17 => (kN NN fn.impl_WindowOk [v17] h).bind fun v18 => (keqB .neq v18 v14).bind fun v21 => kcond v21 (G .ret (.bool false) h) ((kloadA 2 h v5).bind fun v22 => (kloadA 2 h v1).bind fun v23 => (kN NN fn.laws_toWindow [v23] h).bind fun v24 => (kN NN fn.laws_eqWindow [v22, v24] h).bind fun v25 => (kun .not v25).bind fun v26 => kcond v26 (G .ret (.bool false) h) (G .ret (.bool true) h)))
theorem n0_eq {R : Type} (k : Nat) (G : GX → GV → Heap → Option R) (σ : GS) (h : Heap) : KC k 27 c0 σ h (fun x σ h => G x (σ 2) h) = n0 k G (σ 0) h := by kernel_rfl
def run {R : Type} (k : Nat) (a0 : GV) (h : Heap) (fin : GV → Heap → Option R) : Option R := n0 k (fun x v2 h => kend x (fin v2 h)) a0 h
theorem run_eq {R : Type} (k : Nat) (a0 : GV) (h : Heap) (fin : GV → Heap → Option R) : kfun PP cfg NN HH k fn.laws_FnExactWindowOk [a0] h fin = run k a0 h fin := (kfun_eq (nt := 27) (c := c0) (show PP.funcs[fn.laws_FnExactWindowOk]? = some Try.f6 by kernel_rfl) (by kernel_rfl) (by kernel_rfl) (fun x σ h => by cases x <;> kernel_rfl)).trans (n0_eq k (fun x v2 h => kend x (fin v2 h)) _ h)
theorem gives {k : Nat} {a0 : GV} {v : GV} (e : run k a0 [] finN = some v) : NN fn.laws_FnExactWindowOk [a0] = some v := nω_of (by kernel_rfl) ((run_eq k a0 [] finN).trans e)
end S.laws_FnExactWindowOk
end
end Go.Proofs.Ytleeifecdjolhaa.G
