/- What these functions do, told for open values, out of the machine with continuations. Printed by a program of this session. -/
import Derived.Test.YtleeifecdjolhaaSA0
import Derived.KernelRfl
namespace Go.Proofs.Ytleeifecdjolhaa.G
open Go.RowKit
set_option linter.unusedVariables false
set_option maxRecDepth 100000
noncomputable section
/-! spec_NewTerm -/
namespace S.spec_NewTerm
noncomputable def c0 : Code := bodyOf Try.f41
@[simp] def n0 {R : Type} (k : Nat) (G : KT2 R) (v0 v1 : GV) (h : Heap) : Option R := kalloc [(.int .i64 0), .nils, (.int .i64 0), .nils, (.int .i64 0), (.int .i64 0), (.int .i64 0), (.int .i64 0), (.bool false), (.bool false), (.bool false), (.int .i64 0), (.int .i64 0), (.bool false), (.bool false), (.bool false), (.bool false), (.int .i64 0), (.int .i64 0), (.int .i64 0), (.int .i64 0), (.bool false), (.bool false), (.bool false), .nils, (.int .i64 0), .nils, (.int .i64 0), .nils, (.str { data := #[] })] h fun v4 h => (kN NN fn.spec_NewGrid [v0, v1] h).bind fun v11 => (kxt 0 v11).bind fun v12 => (kxt 1 v11).bind fun v13 => kalloc [(.int .i64 0), .nils] h fun v6 h => (kstore 2 h v6 v12).bind fun h => (kun .not v13).bind fun v15 => kcond v15 ((gfill (fun i => [(0, 2), (2, 2), (4, 1), (5, 1), (6, 5), (11, 1), (12, 1), (13, 1), (14, 1), (15, 1), (16, 1), (17, 1), (18, 1), (19, 5), (24, 1), (25, 4), (29, 1)][i]?) [(.int .i64 0), .nils, (.int .i64 0), .nils, (.int .i64 0), (.int .i64 0), (.int .i64 0), (.int .i64 0), (.bool false), (.bool false), (.bool false), (.int .i64 0), (.int .i64 0), (.bool false), (.bool false), (.bool false), (.bool false), (.int .i64 0), (.int .i64 0), (.int .i64 0), (.int .i64 0), (.bool false), (.bool false), (.bool false), .nils, (.int .i64 0), .nils, (.int .i64 0), .nils, (.str { data := #[] })] []).bind fun c => kagg c h fun v16 h => (kstore 30 h v4 v16).bind fun h => G .ret v4 (.bool false) h) ((kF false HH fn.spec_l7New [v0, v1] h).bind fun r => kr r fun v19 h => (kstore 30 h v4 v19).bind fun h => G .ret v4 (.bool true) h)
theorem n0_eq {R : Type} (k : Nat) (G : KT2 R) (σ : GS) (h : Heap) : KC k 20 c0 σ h (fun x σ h => G x (σ 4) (σ 5) h) = n0 k G (σ 0) (σ 1) h := by kernel_rfl
def run {R : Type} (k : Nat) (a0 : GV) (a1 : GV) (h : Heap) (fin : GV → Heap → Option R) : Option R := n0 k (fun x v4 v5 h => kend x ((kloadA 30 h v4).bind fun w4 => fin (.tup [w4, v5]) h)) a0 a1 h
theorem run_eq {R : Type} (k : Nat) (a0 : GV) (a1 : GV) (h : Heap) (fin : GV → Heap → Option R) : kfun PP cfg NN HH k fn.spec_NewTerm [a0, a1] h fin = run k a0 a1 h fin := (kfun_eq (nt := 20) (c := c0) (show PP.funcs[fn.spec_NewTerm]? = some Try.f41 by kernel_rfl) (by kernel_rfl) (by kernel_rfl) (fun x σ h => by cases x <;> kernel_rfl)).trans (n0_eq k (fun x v4 v5 h => kend x ((kloadA 30 h v4).bind fun w4 => fin (.tup [w4, v5]) h)) _ h)
theorem gives {k : Nat} {a0 : GV} {a1 : GV} {v : GV} (e : run k a0 a1 [] finN = some v) : NN fn.spec_NewTerm [a0, a1] = some v := nω_of (by kernel_rfl) ((run_eq k a0 a1 [] finN).trans e)
end S.spec_NewTerm
/-! impl_NewTerm -/
namespace S.impl_NewTerm
noncomputable def c0 : Code := bodyOf Try.f42
noncomputable def c1 : Code := cR c0
noncomputable def c2 : Code := cR c1
@[simp] def n2 {R : Type} (k : Nat) (G : KT2 R) (v0 v1 v4 : GV) (h : Heap) : Option R := (kF false HH fn.impl_newTerm [v0, v1] h).bind fun r => kr r fun v17 h => (kstore 30 h v4 v17).bind fun h => G .ret v4 (.bool true) h
theorem n2_eq {R : Type} (k : Nat) (G : KT2 R) (σ : GS) (h : Heap) : KC k 18 c2 σ h (fun x σ h => G x (σ 4) (σ 5) h) = n2 k G (σ 0) (σ 1) (σ 4) h := by kernel_rfl
noncomputable def c3 : Code := cL c1
noncomputable def c4 : Code := cR c3
@[simp] def n4 {R : Type} (k : Nat) (G : KT4 R) (v0 v1 v4 v5 v13 : GV) (h : Heap) : Option R := kcond v13 ((gfill (fun i => [(0, 2), (2, 2), (4, 1), (5, 1), (6, 5), (11, 1), (12, 1), (13, 1), (14, 1), (15, 1), (16, 1), (17, 1), (18, 1), (19, 5), (24, 1), (25, 4), (29, 1)][i]?) [(.int .i64 0), .nils, (.int .i64 0), .nils, (.int .i64 0), (.int .i64 0), (.int .i64 0), (.int .i64 0), (.bool false), (.bool false), (.bool false), (.int .i64 0), (.int .i64 0), (.bool false), (.bool false), (.bool false), (.bool false), (.int .i64 0), (.int .i64 0), (.int .i64 0), (.int .i64 0), (.bool false), (.bool false), (.bool false), .nils, (.int .i64 0), .nils, (.int .i64 0), .nils, (.str { data := #[] })] []).bind fun c => kagg c h fun v14 h => (kstore 30 h v4 v14).bind fun h => G .ret v0 v1 v4 (.bool false) h) (G .nrm v0 v1 v4 v5 h)
theorem n4_eq {R : Type} (k : Nat) (G : KT4 R) (σ : GS) (h : Heap) : KC k 18 c4 σ h (fun x σ h => G x (σ 0) (σ 1) (σ 4) (σ 5) h) = n4 k G (σ 0) (σ 1) (σ 4) (σ 5) (σ 13) h := by kernel_rfl
noncomputable def c5 : Code := cL c3
noncomputable def o5 : Array Oper := cO c5
@[simp] def g5_2 {R : Type} (k : Nat) (G : KT5 R) (v0 v1 v4 v5 v9 v12 : GV) (h : Heap) : Option R := (kpick v9 (.bool true) v12).bind fun v13 => G .nrm v0 v1 v4 v5 v13 h
theorem g5_2_eq {R : Type} (k : Nat) (G : KT5 R) (σ : GS) (h : Heap) : kgroups PP cfg NN HH 18 o5 [(none, [7])] σ h (fun σ h => G .nrm (σ 0) (σ 1) (σ 4) (σ 5) (σ 13) h) = g5_2 k G (σ 0) (σ 1) (σ 4) (σ 5) (σ 9) (σ 12) h := by kernel_rfl
@[simp] def g5_1 {R : Type} (k : Nat) (G : KT5 R) (v0 v1 v4 v5 v9 : GV) (h : Heap) : Option R := bif tr false v9 then (kN NN fn.impl_in [v1, (.int .i64 1), (.int .i64 30)] h).bind fun v11 => (kun .not v11).bind fun v12 => g5_2 k G v0 v1 v4 v5 v9 v12 h else g5_2 k G v0 v1 v4 v5 v9 .un h
theorem g5_1_eq0 {R : Type} (k : Nat) (G : KT5 R) (σ : GS) (h : Heap) : kgroup1 PP cfg NN HH 18 o5 (some (3, false), [4, 5, 6]) σ h (fun σ h => g5_2 k G (σ 0) (σ 1) (σ 4) (σ 5) (σ 9) (σ 12) h) = g5_1 k G (σ 0) (σ 1) (σ 4) (σ 5) (σ 9) h := by kernel_rfl
theorem g5_1_eq {R : Type} (k : Nat) (G : KT5 R) (σ : GS) (h : Heap) : kgroups PP cfg NN HH 18 o5 [(some (3, false), [4, 5, 6]), (none, [7])] σ h (fun σ h => G .nrm (σ 0) (σ 1) (σ 4) (σ 5) (σ 13) h) = g5_1 k G (σ 0) (σ 1) (σ 4) (σ 5) (σ 9) h := (kgroups_cons (fun σ h => g5_2_eq k G σ h)).trans (g5_1_eq0 k G σ h)
@[simp] def g5_0 {R : Type} (k : Nat) (G : KT5 R) (v0 v1 v4 v5 : GV) (h : Heap) : Option R := (kN NN fn.impl_in [v0, (.int .i64 1), (.int .i64 60)] h).bind fun v7 => (kun .not v7).bind fun v8 => g5_1 k G v0 v1 v4 v5 v8 h
theorem g5_0_eq0 {R : Type} (k : Nat) (G : KT5 R) (σ : GS) (h : Heap) : kgroup1 PP cfg NN HH 18 o5 (none, [0, 1, 2, 3]) σ h (fun σ h => g5_1 k G (σ 0) (σ 1) (σ 4) (σ 5) (σ 9) h) = g5_0 k G (σ 0) (σ 1) (σ 4) (σ 5) h := by kernel_rfl
theorem g5_0_eq {R : Type} (k : Nat) (G : KT5 R) (σ : GS) (h : Heap) : kgroups PP cfg NN HH 18 o5 [(none, [0, 1, 2, 3]), (some (3, false), [4, 5, 6]), (none, [7])] σ h (fun σ h => G .nrm (σ 0) (σ 1) (σ 4) (σ 5) (σ 13) h) = g5_0 k G (σ 0) (σ 1) (σ 4) (σ 5) h := (kgroups_cons (fun σ h => g5_1_eq k G σ h)).trans (g5_0_eq0 k G σ h)
@[simp] def n5 {R : Type} (k : Nat) (G : KT5 R) (v0 v1 v4 v5 : GV) (h : Heap) : Option R := g5_0 k G v0 v1 v4 v5 h
theorem n5_eq {R : Type} (k : Nat) (G : KT5 R) (σ : GS) (h : Heap) : KC k 18 c5 σ h (fun x σ h => G x (σ 0) (σ 1) (σ 4) (σ 5) (σ 13) h) = n5 k G (σ 0) (σ 1) (σ 4) (σ 5) h := (kregion_eq (id := 1) (draw := false) (ops := o5) (gs := [(none, [0, 1, 2, 3]), (some (3, false), [4, 5, 6]), (none, [7])]) (by kernel_rfl) (by kernel_rfl) (by kernel_rfl)).trans (g5_0_eq k G σ h)
@[simp] def n3 {R : Type} (k : Nat) (G : KT4 R) (v0 v1 v4 v5 : GV) (h : Heap) : Option R := n5 k (fun x v0 v1 v4 v5 v13 h => kx x (n4 k G v0 v1 v4 v5 v13 h) (G x v0 v1 v4 v5 h)) v0 v1 v4 v5 h
theorem n3_eq {R : Type} (k : Nat) (G : KT4 R) (σ : GS) (h : Heap) : KC k 18 c3 σ h (fun x σ h => G x (σ 0) (σ 1) (σ 4) (σ 5) h) = n3 k G (σ 0) (σ 1) (σ 4) (σ 5) h := (kseq (b := c4) rfl (fun σ h => n4_eq k G σ h)).trans (n5_eq k (fun x v0 v1 v4 v5 v13 h => kx x (n4 k G v0 v1 v4 v5 v13 h) (G x v0 v1 v4 v5 h)) σ h)
@[simp] def n1 {R : Type} (k : Nat) (G : KT2 R) (v0 v1 v4 v5 : GV) (h : Heap) : Option R := n3 k (fun x v0 v1 v4 v5 h => kx x (n2 k G v0 v1 v4 h) (G x v4 v5 h)) v0 v1 v4 v5 h
theorem n1_eq {R : Type} (k : Nat) (G : KT2 R) (σ : GS) (h : Heap) : KC k 18 c1 σ h (fun x σ h => G x (σ 4) (σ 5) h) = n1 k G (σ 0) (σ 1) (σ 4) (σ 5) h := (kseq (b := c2) rfl (fun σ h => n2_eq k G σ h)).trans (n3_eq k (fun x v0 v1 v4 v5 h => kx x (n2 k G v0 v1 v4 h) (G x v4 v5 h)) σ h)
noncomputable def c6 : Code := cL c0
@[simp] def n0 {R : Type} (k : Nat) (G : KT2 R) (v0 v1 : GV) (h : Heap) : Option R := kalloc [(.int .i64 0), .nils, (.int .i64 0), .nils, (.int .i64 0), (.int .i64 0), (.int .i64 0), (.int .i64 0), (.bool false), (.bool false), (.bool false), (.int .i64 0), (.int .i64 0), (.bool false), (.bool false), (.bool false), (.bool false), (.int .i64 0), (.int .i64 0), (.int .i64 0), (.int .i64 0), (.bool false), (.bool false), (.bool false), .nils, (.int .i64 0), .nils, (.int .i64 0), .nils, (.str { data := #[] })] h fun v4 h => n1 k G v0 v1 v4 (.bool false) h
theorem n0_eq0 {R : Type} (k : Nat) (G : KT2 R) (σ : GS) (h : Heap) : KC k 18 c6 σ h (fun x σ h => kx x (n1 k G (σ 0) (σ 1) (σ 4) (σ 5) h) (G x (σ 4) (σ 5) h)) = n0 k G (σ 0) (σ 1) h := by kernel_rfl
theorem n0_eq {R : Type} (k : Nat) (G : KT2 R) (σ : GS) (h : Heap) : KC k 18 c0 σ h (fun x σ h => G x (σ 4) (σ 5) h) = n0 k G (σ 0) (σ 1) h := (kseq (b := c1) rfl (fun σ h => n1_eq k G σ h)).trans (n0_eq0 k G σ h)
def run {R : Type} (k : Nat) (a0 : GV) (a1 : GV) (h : Heap) (fin : GV → Heap → Option R) : Option R := n0 k (fun x v4 v5 h => kend x ((kloadA 30 h v4).bind fun w4 => fin (.tup [w4, v5]) h)) a0 a1 h
theorem run_eq {R : Type} (k : Nat) (a0 : GV) (a1 : GV) (h : Heap) (fin : GV → Heap → Option R) : kfun PP cfg NN HH k fn.impl_NewTerm [a0, a1] h fin = run k a0 a1 h fin := (kfun_eq (nt := 18) (c := c0) (show PP.funcs[fn.impl_NewTerm]? = some Try.f42 by kernel_rfl) (by kernel_rfl) (by kernel_rfl) (fun x σ h => by cases x <;> kernel_rfl)).trans (n0_eq k (fun x v4 v5 h => kend x ((kloadA 30 h v4).bind fun w4 => fin (.tup [w4, v5]) h)) _ h)
theorem gives {k : Nat} {a0 : GV} {a1 : GV} {b : Nat} {q : GV × List (List GV)} (e : run k a0 a1 [] (finO b) = some q) : OO fn.impl_NewTerm [a0, a1] b = some q := oω_of ((run_eq k a0 a1 [] (finO b)).trans e)
end S.impl_NewTerm
/-! spec_l1In -/
namespace S.spec_l1In
noncomputable def c0 : Code := bodyOf Try.f50
noncomputable def c1 : Code := cR c0
noncomputable def c2 : Code := cR c1
@[simp] def n2 {R : Type} (k : Nat) (G : KT1 R) (v6 : GV) (h : Heap) : Option R := G .ret v6 h
theorem n2_eq {R : Type} (k : Nat) (G : KT1 R) (σ : GS) (h : Heap) : KC k 15 c2 σ h (fun x σ h => G x (σ 6) h) = n2 k G (σ 6) h := by kernel_rfl
noncomputable def c3 : Code := cL c1
noncomputable def o3 : Array Oper := cO c3
@[simp] def g3_2 {R : Type} (k : Nat) (G : KT1 R) (v10 v13 : GV) (h : Heap) : Option R := (kpick v10 v13 (.bool false)).bind fun v14 => G .nrm v14 h
theorem g3_2_eq {R : Type} (k : Nat) (G : KT1 R) (σ : GS) (h : Heap) : kgroups PP cfg NN HH 15 o3 [(none, [7, 8])] σ h (fun σ h => G .nrm (σ 6) h) = g3_2 k G (σ 10) (σ 13) h := by kernel_rfl
@[simp] def g3_1 {R : Type} (k : Nat) (G : KT1 R) (v0 v2 v10 : GV) (h : Heap) : Option R := bif tr true v10 then (kbin .leq v0 v2).bind fun v13 => g3_2 k G v10 v13 h else g3_2 k G v10 .un h
theorem g3_1_eq0 {R : Type} (k : Nat) (G : KT1 R) (σ : GS) (h : Heap) : kgroup1 PP cfg NN HH 15 o3 (some (3, true), [4, 5, 6]) σ h (fun σ h => g3_2 k G (σ 10) (σ 13) h) = g3_1 k G (σ 0) (σ 2) (σ 10) h := by kernel_rfl
theorem g3_1_eq {R : Type} (k : Nat) (G : KT1 R) (σ : GS) (h : Heap) : kgroups PP cfg NN HH 15 o3 [(some (3, true), [4, 5, 6]), (none, [7, 8])] σ h (fun σ h => G .nrm (σ 6) h) = g3_1 k G (σ 0) (σ 2) (σ 10) h := (kgroups_cons (fun σ h => g3_2_eq k G σ h)).trans (g3_1_eq0 k G σ h)
@[simp] def g3_0 {R : Type} (k : Nat) (G : KT1 R) (v0 v1 v2 : GV) (h : Heap) : Option R := (kbin .geq v0 v1).bind fun v9 => g3_1 k G v0 v2 v9 h
theorem g3_0_eq0 {R : Type} (k : Nat) (G : KT1 R) (σ : GS) (h : Heap) : kgroup1 PP cfg NN HH 15 o3 (none, [0, 1, 2, 3]) σ h (fun σ h => g3_1 k G (σ 0) (σ 2) (σ 10) h) = g3_0 k G (σ 0) (σ 1) (σ 2) h := by kernel_rfl
theorem g3_0_eq {R : Type} (k : Nat) (G : KT1 R) (σ : GS) (h : Heap) : kgroups PP cfg NN HH 15 o3 [(none, [0, 1, 2, 3]), (some (3, true), [4, 5, 6]), (none, [7, 8])] σ h (fun σ h => G .nrm (σ 6) h) = g3_0 k G (σ 0) (σ 1) (σ 2) h := (kgroups_cons (fun σ h => g3_1_eq k G σ h)).trans (g3_0_eq0 k G σ h)
@[simp] def n3 {R : Type} (k : Nat) (G : KT1 R) (v0 v1 v2 : GV) (h : Heap) : Option R := g3_0 k G v0 v1 v2 h
theorem n3_eq {R : Type} (k : Nat) (G : KT1 R) (σ : GS) (h : Heap) : KC k 15 c3 σ h (fun x σ h => G x (σ 6) h) = n3 k G (σ 0) (σ 1) (σ 2) h := (kregion_eq (id := 1) (draw := false) (ops := o3) (gs := [(none, [0, 1, 2, 3]), (some (3, true), [4, 5, 6]), (none, [7, 8])]) (by kernel_rfl) (by kernel_rfl) (by kernel_rfl)).trans (g3_0_eq k G σ h)
@[simp] def n1 {R : Type} (k : Nat) (G : KT1 R) (v0 v1 v2 : GV) (h : Heap) : Option R := n3 k (fun x v6 h => kx x (n2 k G v6 h) (G x v6 h)) v0 v1 v2 h
theorem n1_eq {R : Type} (k : Nat) (G : KT1 R) (σ : GS) (h : Heap) : KC k 15 c1 σ h (fun x σ h => G x (σ 6) h) = n1 k G (σ 0) (σ 1) (σ 2) h := (kseq (b := c2) rfl (fun σ h => n2_eq k G σ h)).trans (n3_eq k (fun x v6 h => kx x (n2 k G v6 h) (G x v6 h)) σ h)
noncomputable def c4 : Code := cL c0
@[simp] def n0 {R : Type} (k : Nat) (G : KT1 R) (v0 v1 v2 : GV) (h : Heap) : Option R := n1 k G v0 v1 v2 h
theorem n0_eq0 {R : Type} (k : Nat) (G : KT1 R) (σ : GS) (h : Heap) : KC k 15 c4 σ h (fun x σ h => kx x (n1 k G (σ 0) (σ 1) (σ 2) h) (G x (σ 6) h)) = n0 k G (σ 0) (σ 1) (σ 2) h := by kernel_rfl
theorem n0_eq {R : Type} (k : Nat) (G : KT1 R) (σ : GS) (h : Heap) : KC k 15 c0 σ h (fun x σ h => G x (σ 6) h) = n0 k G (σ 0) (σ 1) (σ 2) h := (kseq (b := c1) rfl (fun σ h => n1_eq k G σ h)).trans (n0_eq0 k G σ h)
def run {R : Type} (k : Nat) (a0 : GV) (a1 : GV) (a2 : GV) (h : Heap) (fin : GV → Heap → Option R) : Option R := n0 k (fun x v6 h => kend x (fin v6 h)) a0 a1 a2 h
theorem run_eq {R : Type} (k : Nat) (a0 : GV) (a1 : GV) (a2 : GV) (h : Heap) (fin : GV → Heap → Option R) : kfun PP cfg NN HH k fn.spec_l1In [a0, a1, a2] h fin = run k a0 a1 a2 h fin := (kfun_eq (nt := 15) (c := c0) (show PP.funcs[fn.spec_l1In]? = some Try.f50 by kernel_rfl) (by kernel_rfl) (by kernel_rfl) (fun x σ h => by cases x <;> kernel_rfl)).trans (n0_eq k (fun x v6 h => kend x (fin v6 h)) _ h)
theorem gives {k : Nat} {a0 : GV} {a1 : GV} {a2 : GV} {v : GV} (e : run k a0 a1 a2 [] finN = some v) : NN fn.spec_l1In [a0, a1, a2] = some v := nω_of (by kernel_rfl) ((run_eq k a0 a1 a2 [] finN).trans e)
end S.spec_l1In
/-! impl_in -/
namespace S.impl_in
noncomputable def c0 : Code := bodyOf Try.f51
noncomputable def c1 : Code := cR c0
noncomputable def c2 : Code := cR c1
@[simp] def n2 {R : Type} (k : Nat) (G : KT1 R) (v6 : GV) (h : Heap) : Option R := G .ret v6 h
theorem n2_eq {R : Type} (k : Nat) (G : KT1 R) (σ : GS) (h : Heap) : KC k 15 c2 σ h (fun x σ h => G x (σ 6) h) = n2 k G (σ 6) h := by kernel_rfl
noncomputable def c3 : Code := cL c1
noncomputable def o3 : Array Oper := cO c3
@[simp] def g3_2 {R : Type} (k : Nat) (G : KT1 R) (v10 v13 : GV) (h : Heap) : Option R := (kpick v10 v13 (.bool false)).bind fun v14 => G .nrm v14 h
theorem g3_2_eq {R : Type} (k : Nat) (G : KT1 R) (σ : GS) (h : Heap) : kgroups PP cfg NN HH 15 o3 [(none, [7, 8])] σ h (fun σ h => G .nrm (σ 6) h) = g3_2 k G (σ 10) (σ 13) h := by kernel_rfl
@[simp] def g3_1 {R : Type} (k : Nat) (G : KT1 R) (v0 v2 v10 : GV) (h : Heap) : Option R := bif tr true v10 then (kbin .leq v0 v2).bind fun v13 => g3_2 k G v10 v13 h else g3_2 k G v10 .un h
theorem g3_1_eq0 {R : Type} (k : Nat) (G : KT1 R) (σ : GS) (h : Heap) : kgroup1 PP cfg NN HH 15 o3 (some (3, true), [4, 5, 6]) σ h (fun σ h => g3_2 k G (σ 10) (σ 13) h) = g3_1 k G (σ 0) (σ 2) (σ 10) h := by kernel_rfl
theorem g3_1_eq {R : Type} (k : Nat) (G : KT1 R) (σ : GS) (h : Heap) : kgroups PP cfg NN HH 15 o3 [(some (3, true), [4, 5, 6]), (none, [7, 8])] σ h (fun σ h => G .nrm (σ 6) h) = g3_1 k G (σ 0) (σ 2) (σ 10) h := (kgroups_cons (fun σ h => g3_2_eq k G σ h)).trans (g3_1_eq0 k G σ h)
@[simp] def g3_0 {R : Type} (k : Nat) (G : KT1 R) (v0 v1 v2 : GV) (h : Heap) : Option R := (kbin .leq v1 v0).bind fun v9 => g3_1 k G v0 v2 v9 h
theorem g3_0_eq0 {R : Type} (k : Nat) (G : KT1 R) (σ : GS) (h : Heap) : kgroup1 PP cfg NN HH 15 o3 (none, [0, 1, 2, 3]) σ h (fun σ h => g3_1 k G (σ 0) (σ 2) (σ 10) h) = g3_0 k G (σ 0) (σ 1) (σ 2) h := by kernel_rfl
theorem g3_0_eq {R : Type} (k : Nat) (G : KT1 R) (σ : GS) (h : Heap) : kgroups PP cfg NN HH 15 o3 [(none, [0, 1, 2, 3]), (some (3, true), [4, 5, 6]), (none, [7, 8])] σ h (fun σ h => G .nrm (σ 6) h) = g3_0 k G (σ 0) (σ 1) (σ 2) h := (kgroups_cons (fun σ h => g3_1_eq k G σ h)).trans (g3_0_eq0 k G σ h)
@[simp] def n3 {R : Type} (k : Nat) (G : KT1 R) (v0 v1 v2 : GV) (h : Heap) : Option R := g3_0 k G v0 v1 v2 h
theorem n3_eq {R : Type} (k : Nat) (G : KT1 R) (σ : GS) (h : Heap) : KC k 15 c3 σ h (fun x σ h => G x (σ 6) h) = n3 k G (σ 0) (σ 1) (σ 2) h := (kregion_eq (id := 1) (draw := false) (ops := o3) (gs := [(none, [0, 1, 2, 3]), (some (3, true), [4, 5, 6]), (none, [7, 8])]) (by kernel_rfl) (by kernel_rfl) (by kernel_rfl)).trans (g3_0_eq k G σ h)
@[simp] def n1 {R : Type} (k : Nat) (G : KT1 R) (v0 v1 v2 : GV) (h : Heap) : Option R := n3 k (fun x v6 h => kx x (n2 k G v6 h) (G x v6 h)) v0 v1 v2 h
theorem n1_eq {R : Type} (k : Nat) (G : KT1 R) (σ : GS) (h : Heap) : KC k 15 c1 σ h (fun x σ h => G x (σ 6) h) = n1 k G (σ 0) (σ 1) (σ 2) h := (kseq (b := c2) rfl (fun σ h => n2_eq k G σ h)).trans (n3_eq k (fun x v6 h => kx x (n2 k G v6 h) (G x v6 h)) σ h)
noncomputable def c4 : Code := cL c0
@[simp] def n0 {R : Type} (k : Nat) (G : KT1 R) (v0 v1 v2 : GV) (h : Heap) : Option R := n1 k G v0 v1 v2 h
theorem n0_eq0 {R : Type} (k : Nat) (G : KT1 R) (σ : GS) (h : Heap) : KC k 15 c4 σ h (fun x σ h => kx x (n1 k G (σ 0) (σ 1) (σ 2) h) (G x (σ 6) h)) = n0 k G (σ 0) (σ 1) (σ 2) h := by kernel_rfl
theorem n0_eq {R : Type} (k : Nat) (G : KT1 R) (σ : GS) (h : Heap) : KC k 15 c0 σ h (fun x σ h => G x (σ 6) h) = n0 k G (σ 0) (σ 1) (σ 2) h := (kseq (b := c1) rfl (fun σ h => n1_eq k G σ h)).trans (n0_eq0 k G σ h)
def run {R : Type} (k : Nat) (a0 : GV) (a1 : GV) (a2 : GV) (h : Heap) (fin : GV → Heap → Option R) : Option R := n0 k (fun x v6 h => kend x (fin v6 h)) a0 a1 a2 h
theorem run_eq {R : Type} (k : Nat) (a0 : GV) (a1 : GV) (a2 : GV) (h : Heap) (fin : GV → Heap → Option R) : kfun PP cfg NN HH k fn.impl_in [a0, a1, a2] h fin = run k a0 a1 a2 h fin := (kfun_eq (nt := 15) (c := c0) (show PP.funcs[fn.impl_in]? = some Try.f51 by kernel_rfl) (by kernel_rfl) (by kernel_rfl) (fun x σ h => by cases x <;> kernel_rfl)).trans (n0_eq k (fun x v6 h => kend x (fin v6 h)) _ h)
theorem gives {k : Nat} {a0 : GV} {a1 : GV} {a2 : GV} {v : GV} (e : run k a0 a1 a2 [] finN = some v) : NN fn.impl_in [a0, a1, a2] = some v := nω_of (by kernel_rfl) ((run_eq k a0 a1 a2 [] finN).trans e)
end S.impl_in
/-! impl_NewGrid -/
namespace S.impl_NewGrid
noncomputable def c0 : Code := bodyOf Try.f83
noncomputable def c1 : Code := cR c0
noncomputable def c2 : Code := cR c1
noncomputable def c3 : Code := cR c2
noncomputable def c4 : Code := cR c3
@[simp] def n4 {R : Type} (k : Nat) (G : KT2 R) (v4 v6 : GV) (h : Heap) : Option R := (kloadA 2 h v6).bind fun v30 => (kstore 2 h v4 v30).bind fun h => G .ret v4 (.bool true) h
theorem n4_eq {R : Type} (k : Nat) (G : KT2 R) (σ : GS) (h : Heap) : KC k 31 c4 σ h (fun x σ h => G x (σ 4) (σ 5) h) = n4 k G (σ 4) (σ 6) h := by kernel_rfl
noncomputable def c5 : Code := cL c3
noncomputable def c6 : Code := cR c5
noncomputable def c7 : Code := cL c6
noncomputable def c8 : Code := cL c7
noncomputable def c9 : Code := cR c8
noncomputable def c10 : Code := cR c9
noncomputable def c11 : Code := cR c10
@[simp] def n11 {R : Type} (k : Nat) (G : KT6 R) (v0 v4 v5 v6 v18 v19 : GV) (h : Heap) : Option R := (kbin .add v19 (.int .i64 1)).bind fun v29 => G .nrm v0 v4 v5 v6 v18 v29 h
theorem n11_eq {R : Type} (k : Nat) (G : KT6 R) (σ : GS) (h : Heap) : KC k 31 c11 σ h (fun x σ h => G x (σ 0) (σ 4) (σ 5) (σ 6) (σ 18) (σ 19) h) = n11 k G (σ 0) (σ 4) (σ 5) (σ 6) (σ 18) (σ 19) h := by kernel_rfl
noncomputable def c12 : Code := cL c10
noncomputable def c13 : Code := cL c12
@[simp] def n13 {R : Type} (k : Nat) (G : KT6 R) (v0 v4 v5 v6 v18 v19 : GV) (h : Heap) : Option R := (kfa 1 v6).bind fun v21 => (kload1 h v21).bind fun v22 => (gfill (fun i => [(0, 1), (1, 1), (2, 1), (3, 1), (4, 1)][i]?) [(.int .i64 0), (.int .i64 0), (.bool false), (.bool false), (.bool false)] []).bind fun c => kagg c h fun v24 h => (kF false HH fn.impl_Blank [v0, v24] h).bind fun r => kr r fun v25 h => (gfill (fun i => some (i * 1, 1)) (zeros [.nils] 1) [(0, v25)]).bind fun c => kbs 1 1 c h fun v26 h => (kapp [.nils] 1 24 v22 v26 h).bind fun r => kr r fun v27 h => (kfa 1 v6).bind fun v28 => (kstore 1 h v28 v27).bind fun h => G .nrm v0 v4 v5 v6 v18 v19 h
theorem n13_eq {R : Type} (k : Nat) (G : KT6 R) (σ : GS) (h : Heap) : KC k 31 c13 σ h (fun x σ h => G x (σ 0) (σ 4) (σ 5) (σ 6) (σ 18) (σ 19) h) = n13 k G (σ 0) (σ 4) (σ 5) (σ 6) (σ 18) (σ 19) h := by kernel_rfl
@[simp] def n12 {R : Type} (k : Nat) (G : KT6 R) (v0 v4 v5 v6 v18 v19 : GV) (h : Heap) : Option R := n13 k (fun x v0 v4 v5 v6 v18 v19 h => kb 1 x fun x => G x v0 v4 v5 v6 v18 v19 h) v0 v4 v5 v6 v18 v19 h
theorem n12_eq {R : Type} (k : Nat) (G : KT6 R) (σ : GS) (h : Heap) : KC k 31 c12 σ h (fun x σ h => G x (σ 0) (σ 4) (σ 5) (σ 6) (σ 18) (σ 19) h) = n12 k G (σ 0) (σ 4) (σ 5) (σ 6) (σ 18) (σ 19) h := (kblock_eq (a := c13) rfl).trans (n13_eq k (fun x v0 v4 v5 v6 v18 v19 h => kb 1 x fun x => G x v0 v4 v5 v6 v18 v19 h) σ h)
@[simp] def n10 {R : Type} (k : Nat) (G : KT6 R) (v0 v4 v5 v6 v18 v19 : GV) (h : Heap) : Option R := n12 k (fun x v0 v4 v5 v6 v18 v19 h => kx x (n11 k G v0 v4 v5 v6 v18 v19 h) (G x v0 v4 v5 v6 v18 v19 h)) v0 v4 v5 v6 v18 v19 h
theorem n10_eq {R : Type} (k : Nat) (G : KT6 R) (σ : GS) (h : Heap) : KC k 31 c10 σ h (fun x σ h => G x (σ 0) (σ 4) (σ 5) (σ 6) (σ 18) (σ 19) h) = n10 k G (σ 0) (σ 4) (σ 5) (σ 6) (σ 18) (σ 19) h := (kseq (b := c11) rfl (fun σ h => n11_eq k G σ h)).trans (n12_eq k (fun x v0 v4 v5 v6 v18 v19 h => kx x (n11 k G v0 v4 v5 v6 v18 v19 h) (G x v0 v4 v5 v6 v18 v19 h)) σ h)
noncomputable def c14 : Code := cL c9
@[simp] def n9 {R : Type} (k : Nat) (G : KT6 R) (v0 v4 v5 v6 v18 v19 v20 : GV) (h : Heap) : Option R := kcond v20 (n10 k G v0 v4 v5 v6 v18 v19 h) (G (.ext 0) v0 v4 v5 v6 v18 v19 h)
theorem n9_eq0 {R : Type} (k : Nat) (G : KT6 R) (σ : GS) (h : Heap) : KC k 31 c14 σ h (fun x σ h => kx x (n10 k G (σ 0) (σ 4) (σ 5) (σ 6) (σ 18) (σ 19) h) (G x (σ 0) (σ 4) (σ 5) (σ 6) (σ 18) (σ 19) h)) = n9 k G (σ 0) (σ 4) (σ 5) (σ 6) (σ 18) (σ 19) (σ 20) h := by kernel_rfl
theorem n9_eq {R : Type} (k : Nat) (G : KT6 R) (σ : GS) (h : Heap) : KC k 31 c9 σ h (fun x σ h => G x (σ 0) (σ 4) (σ 5) (σ 6) (σ 18) (σ 19) h) = n9 k G (σ 0) (σ 4) (σ 5) (σ 6) (σ 18) (σ 19) (σ 20) h := (kseq (b := c10) rfl (fun σ h => n10_eq k G σ h)).trans (n9_eq0 k G σ h)
noncomputable def c15 : Code := cL c8
@[simp] def n8 {R : Type} (k : Nat) (G : KT6 R) (v0 v4 v5 v6 v18 v19 : GV) (h : Heap) : Option R := (kbin .lss v19 v18).bind fun v20 => n9 k G v0 v4 v5 v6 v18 v19 v20 h
theorem n8_eq0 {R : Type} (k : Nat) (G : KT6 R) (σ : GS) (h : Heap) : KC k 31 c15 σ h (fun x σ h => kx x (n9 k G (σ 0) (σ 4) (σ 5) (σ 6) (σ 18) (σ 19) (σ 20) h) (G x (σ 0) (σ 4) (σ 5) (σ 6) (σ 18) (σ 19) h)) = n8 k G (σ 0) (σ 4) (σ 5) (σ 6) (σ 18) (σ 19) h := by kernel_rfl
theorem n8_eq {R : Type} (k : Nat) (G : KT6 R) (σ : GS) (h : Heap) : KC k 31 c8 σ h (fun x σ h => G x (σ 0) (σ 4) (σ 5) (σ 6) (σ 18) (σ 19) h) = n8 k G (σ 0) (σ 4) (σ 5) (σ 6) (σ 18) (σ 19) h := (kseq (b := c9) rfl (fun σ h => n9_eq k G σ h)).trans (n8_eq0 k G σ h)
def l7 {R : Type} (k : Nat) (G : KT3 R) : Nat → GV → GV → GV → GV → GV → GV → Heap → Option R
  | 0, _, _, _, _, _, _, _ => none
  | r + 1, v0, v4, v5, v6, v18, v19, h => n8 k (fun x v0 v4 v5 v6 v18 v19 h => kx x (l7 k G r v0 v4 v5 v6 v18 v19 h) (G x v4 v5 v6 h)) v0 v4 v5 v6 v18 v19 h
theorem l7_eq {R : Type} (k : Nat) (G : KT3 R) : ∀ (r : Nat) (σ : GS) (h : Heap), kloop (fun σ h K => KC k 31 c8 σ h K) r σ h (fun x σ h => G x (σ 4) (σ 5) (σ 6) h) = l7 k G r (σ 0) (σ 4) (σ 5) (σ 6) (σ 18) (σ 19) h
  | 0, _, _ => rfl
  | r + 1, σ, h => (kloop_eq (fun σ h => l7_eq k G r σ h)).trans (n8_eq k (fun x v0 v4 v5 v6 v18 v19 h => kx x (l7 k G r v0 v4 v5 v6 v18 v19 h) (G x v4 v5 v6 h)) σ h)
@[simp] def n7 {R : Type} (k : Nat) (G : KT3 R) (v0 v4 v5 v6 v18 v19 : GV) (h : Heap) : Option R := l7 k G k v0 v4 v5 v6 v18 v19 h
theorem n7_eq {R : Type} (k : Nat) (G : KT3 R) (σ : GS) (h : Heap) : KC k 31 c7 σ h (fun x σ h => G x (σ 4) (σ 5) (σ 6) h) = n7 k G (σ 0) (σ 4) (σ 5) (σ 6) (σ 18) (σ 19) h := (kloopc_eq (a := c8) rfl).trans (l7_eq k G k σ h)
@[simp] def n6 {R : Type} (k : Nat) (G : KT3 R) (v0 v4 v5 v6 v18 v19 : GV) (h : Heap) : Option R := n7 k (fun x v4 v5 v6 h => kb 0 x fun x => G x v4 v5 v6 h) v0 v4 v5 v6 v18 v19 h
theorem n6_eq {R : Type} (k : Nat) (G : KT3 R) (σ : GS) (h : Heap) : KC k 31 c6 σ h (fun x σ h => G x (σ 4) (σ 5) (σ 6) h) = n6 k G (σ 0) (σ 4) (σ 5) (σ 6) (σ 18) (σ 19) h := (kblock_eq (a := c7) rfl).trans (n7_eq k (fun x v4 v5 v6 h => kb 0 x fun x => G x v4 v5 v6 h) σ h)
noncomputable def c16 : Code := cL c5
@[simp] def n5 {R : Type} (k : Nat) (G : KT3 R) (v0 v1 v4 v5 v6 : GV) (h : Heap) : Option R := n6 k G v0 v4 v5 v6 v1 (.int .i64 0) h
theorem n5_eq0 {R : Type} (k : Nat) (G : KT3 R) (σ : GS) (h : Heap) : KC k 31 c16 σ h (fun x σ h => kx x (n6 k G (σ 0) (σ 4) (σ 5) (σ 6) (σ 18) (σ 19) h) (G x (σ 4) (σ 5) (σ 6) h)) = n5 k G (σ 0) (σ 1) (σ 4) (σ 5) (σ 6) h := by kernel_rfl
theorem n5_eq {R : Type} (k : Nat) (G : KT3 R) (σ : GS) (h : Heap) : KC k 31 c5 σ h (fun x σ h => G x (σ 4) (σ 5) (σ 6) h) = n5 k G (σ 0) (σ 1) (σ 4) (σ 5) (σ 6) h := (kseq (b := c6) rfl (fun σ h => n6_eq k G σ h)).trans (n5_eq0 k G σ h)
@[simp] def n3 {R : Type} (k : Nat) (G : KT2 R) (v0 v1 v4 v5 v6 : GV) (h : Heap) : Option R := n5 k (fun x v4 v5 v6 h => kx x (n4 k G v4 v6 h) (G x v4 v5 h)) v0 v1 v4 v5 v6 h
theorem n3_eq {R : Type} (k : Nat) (G : KT2 R) (σ : GS) (h : Heap) : KC k 31 c3 σ h (fun x σ h => G x (σ 4) (σ 5) h) = n3 k G (σ 0) (σ 1) (σ 4) (σ 5) (σ 6) h := (kseq (b := c4) rfl (fun σ h => n4_eq k G σ h)).trans (n5_eq k (fun x v4 v5 v6 h => kx x (n4 k G v4 v6 h) (G x v4 v5 h)) σ h)
noncomputable def c17 : Code := cL c2
@[simp] def n2 {R : Type} (k : Nat) (G : KT2 R) (v0 v1 v4 v5 : GV) (h : Heap) : Option R := (gfill (fun i => [(0, 1), (1, 1)][i]?) [(.int .i64 0), .nils] [(0, v0)]).bind fun c => kagg c h fun v17 h => kalloc [(.int .i64 0), .nils] h fun v6 h => (kstore 2 h v6 v17).bind fun h => n3 k G v0 v1 v4 v5 v6 h
theorem n2_eq0 {R : Type} (k : Nat) (G : KT2 R) (σ : GS) (h : Heap) : KC k 31 c17 σ h (fun x σ h => kx x (n3 k G (σ 0) (σ 1) (σ 4) (σ 5) (σ 6) h) (G x (σ 4) (σ 5) h)) = n2 k G (σ 0) (σ 1) (σ 4) (σ 5) h := by kernel_rfl
theorem n2_eq {R : Type} (k : Nat) (G : KT2 R) (σ : GS) (h : Heap) : KC k 31 c2 σ h (fun x σ h => G x (σ 4) (σ 5) h) = n2 k G (σ 0) (σ 1) (σ 4) (σ 5) h := (kseq (b := c3) rfl (fun σ h => n3_eq k G σ h)).trans (n2_eq0 k G σ h)
noncomputable def c18 : Code := cL c1
noncomputable def c19 : Code := cR c18
@[simp] def n19 {R : Type} (k : Nat) (G : KT4 R) (v0 v1 v4 v5 v14 : GV) (h : Heap) : Option R := kcond v14 ((gfill (fun i => [(0, 1), (1, 1)][i]?) [(.int .i64 0), .nils] []).bind fun c => kagg c h fun v15 h => (kstore 2 h v4 v15).bind fun h => G .ret v0 v1 v4 (.bool false) h) (G .nrm v0 v1 v4 v5 h)
theorem n19_eq {R : Type} (k : Nat) (G : KT4 R) (σ : GS) (h : Heap) : KC k 31 c19 σ h (fun x σ h => G x (σ 0) (σ 1) (σ 4) (σ 5) h) = n19 k G (σ 0) (σ 1) (σ 4) (σ 5) (σ 14) h := by kernel_rfl
noncomputable def c20 : Code := cL c18
noncomputable def o20 : Array Oper := cO c20
@[simp] def g20_2 {R : Type} (k : Nat) (G : KT5 R) (v0 v1 v4 v5 v10 v13 : GV) (h : Heap) : Option R := (kpick v10 (.bool true) v13).bind fun v14 => G .nrm v0 v1 v4 v5 v14 h
theorem g20_2_eq {R : Type} (k : Nat) (G : KT5 R) (σ : GS) (h : Heap) : kgroups PP cfg NN HH 31 o20 [(none, [7])] σ h (fun σ h => G .nrm (σ 0) (σ 1) (σ 4) (σ 5) (σ 14) h) = g20_2 k G (σ 0) (σ 1) (σ 4) (σ 5) (σ 10) (σ 13) h := by kernel_rfl
@[simp] def g20_1 {R : Type} (k : Nat) (G : KT5 R) (v0 v1 v4 v5 v10 : GV) (h : Heap) : Option R := bif tr false v10 then (kN NN fn.impl_in [v1, (.int .i64 1), (.int .i64 30)] h).bind fun v12 => (kun .not v12).bind fun v13 => g20_2 k G v0 v1 v4 v5 v10 v13 h else g20_2 k G v0 v1 v4 v5 v10 .un h
theorem g20_1_eq0 {R : Type} (k : Nat) (G : KT5 R) (σ : GS) (h : Heap) : kgroup1 PP cfg NN HH 31 o20 (some (3, false), [4, 5, 6]) σ h (fun σ h => g20_2 k G (σ 0) (σ 1) (σ 4) (σ 5) (σ 10) (σ 13) h) = g20_1 k G (σ 0) (σ 1) (σ 4) (σ 5) (σ 10) h := by kernel_rfl
theorem g20_1_eq {R : Type} (k : Nat) (G : KT5 R) (σ : GS) (h : Heap) : kgroups PP cfg NN HH 31 o20 [(some (3, false), [4, 5, 6]), (none, [7])] σ h (fun σ h => G .nrm (σ 0) (σ 1) (σ 4) (σ 5) (σ 14) h) = g20_1 k G (σ 0) (σ 1) (σ 4) (σ 5) (σ 10) h := (kgroups_cons (fun σ h => g20_2_eq k G σ h)).trans (g20_1_eq0 k G σ h)
@[simp] def g20_0 {R : Type} (k : Nat) (G : KT5 R) (v0 v1 v4 v5 : GV) (h : Heap) : Option R := (kN NN fn.impl_in [v0, (.int .i64 1), (.int .i64 60)] h).bind fun v8 => (kun .not v8).bind fun v9 => g20_1 k G v0 v1 v4 v5 v9 h
theorem g20_0_eq0 {R : Type} (k : Nat) (G : KT5 R) (σ : GS) (h : Heap) : kgroup1 PP cfg NN HH 31 o20 (none, [0, 1, 2, 3]) σ h (fun σ h => g20_1 k G (σ 0) (σ 1) (σ 4) (σ 5) (σ 10) h) = g20_0 k G (σ 0) (σ 1) (σ 4) (σ 5) h := by kernel_rfl
theorem g20_0_eq {R : Type} (k : Nat) (G : KT5 R) (σ : GS) (h : Heap) : kgroups PP cfg NN HH 31 o20 [(none, [0, 1, 2, 3]), (some (3, false), [4, 5, 6]), (none, [7])] σ h (fun σ h => G .nrm (σ 0) (σ 1) (σ 4) (σ 5) (σ 14) h) = g20_0 k G (σ 0) (σ 1) (σ 4) (σ 5) h := (kgroups_cons (fun σ h => g20_1_eq k G σ h)).trans (g20_0_eq0 k G σ h)
@[simp] def n20 {R : Type} (k : Nat) (G : KT5 R) (v0 v1 v4 v5 : GV) (h : Heap) : Option R := g20_0 k G v0 v1 v4 v5 h
theorem n20_eq {R : Type} (k : Nat) (G : KT5 R) (σ : GS) (h : Heap) : KC k 31 c20 σ h (fun x σ h => G x (σ 0) (σ 1) (σ 4) (σ 5) (σ 14) h) = n20 k G (σ 0) (σ 1) (σ 4) (σ 5) h := (kregion_eq (id := 1) (draw := false) (ops := o20) (gs := [(none, [0, 1, 2, 3]), (some (3, false), [4, 5, 6]), (none, [7])]) (by kernel_rfl) (by kernel_rfl) (by kernel_rfl)).trans (g20_0_eq k G σ h)
@[simp] def n18 {R : Type} (k : Nat) (G : KT4 R) (v0 v1 v4 v5 : GV) (h : Heap) : Option R := n20 k (fun x v0 v1 v4 v5 v14 h => kx x (n19 k G v0 v1 v4 v5 v14 h) (G x v0 v1 v4 v5 h)) v0 v1 v4 v5 h
theorem n18_eq {R : Type} (k : Nat) (G : KT4 R) (σ : GS) (h : Heap) : KC k 31 c18 σ h (fun x σ h => G x (σ 0) (σ 1) (σ 4) (σ 5) h) = n18 k G (σ 0) (σ 1) (σ 4) (σ 5) h := (kseq (b := c19) rfl (fun σ h => n19_eq k G σ h)).trans (n20_eq k (fun x v0 v1 v4 v5 v14 h => kx x (n19 k G v0 v1 v4 v5 v14 h) (G x v0 v1 v4 v5 h)) σ h)
@[simp] def n1 {R : Type} (k : Nat) (G : KT2 R) (v0 v1 v4 v5 : GV) (h : Heap) : Option R := n18 k (fun x v0 v1 v4 v5 h => kx x (n2 k G v0 v1 v4 v5 h) (G x v4 v5 h)) v0 v1 v4 v5 h
theorem n1_eq {R : Type} (k : Nat) (G : KT2 R) (σ : GS) (h : Heap) : KC k 31 c1 σ h (fun x σ h => G x (σ 4) (σ 5) h) = n1 k G (σ 0) (σ 1) (σ 4) (σ 5) h := (kseq (b := c2) rfl (fun σ h => n2_eq k G σ h)).trans (n18_eq k (fun x v0 v1 v4 v5 h => kx x (n2 k G v0 v1 v4 v5 h) (G x v4 v5 h)) σ h)
noncomputable def c21 : Code := cL c0
@[simp] def n0 {R : Type} (k : Nat) (G : KT2 R) (v0 v1 : GV) (h : Heap) : Option R := kalloc [(.int .i64 0), .nils] h fun v4 h => n1 k G v0 v1 v4 (.bool false) h
theorem n0_eq0 {R : Type} (k : Nat) (G : KT2 R) (σ : GS) (h : Heap) : KC k 31 c21 σ h (fun x σ h => kx x (n1 k G (σ 0) (σ 1) (σ 4) (σ 5) h) (G x (σ 4) (σ 5) h)) = n0 k G (σ 0) (σ 1) h := by kernel_rfl
theorem n0_eq {R : Type} (k : Nat) (G : KT2 R) (σ : GS) (h : Heap) : KC k 31 c0 σ h (fun x σ h => G x (σ 4) (σ 5) h) = n0 k G (σ 0) (σ 1) h := (kseq (b := c1) rfl (fun σ h => n1_eq k G σ h)).trans (n0_eq0 k G σ h)
def run {R : Type} (k : Nat) (a0 : GV) (a1 : GV) (h : Heap) (fin : GV → Heap → Option R) : Option R := n0 k (fun x v4 v5 h => kend x ((kloadA 2 h v4).bind fun w4 => fin (.tup [w4, v5]) h)) a0 a1 h
theorem run_eq {R : Type} (k : Nat) (a0 : GV) (a1 : GV) (h : Heap) (fin : GV → Heap → Option R) : kfun PP cfg NN HH k fn.impl_NewGrid [a0, a1] h fin = run k a0 a1 h fin := (kfun_eq (nt := 31) (c := c0) (show PP.funcs[fn.impl_NewGrid]? = some Try.f83 by kernel_rfl) (by kernel_rfl) (by kernel_rfl) (fun x σ h => by cases x <;> kernel_rfl)).trans (n0_eq k (fun x v4 v5 h => kend x ((kloadA 2 h v4).bind fun w4 => fin (.tup [w4, v5]) h)) _ h)
theorem gives {k : Nat} {a0 : GV} {a1 : GV} {b : Nat} {q : GV × List (List GV)} (e : run k a0 a1 [] (finO b) = some q) : OO fn.impl_NewGrid [a0, a1] b = some q := oω_of ((run_eq k a0 a1 [] (finO b)).trans e)
end S.impl_NewGrid
/-! spec_NewGrid -/
namespace S.spec_NewGrid
noncomputable def c0 : Code := bodyOf Try.f92
noncomputable def c1 : Code := cR c0
noncomputable def c2 : Code := cR c1
@[simp] def n2 {R : Type} (k : Nat) (G : KT2 R) (v0 v1 v4 : GV) (h : Heap) : Option R := (kF false HH fn.spec_l5New [v0, v1] h).bind fun r => kr r fun v17 h => (kstore 2 h v4 v17).bind fun h => G .ret v4 (.bool true) h
theorem n2_eq {R : Type} (k : Nat) (G : KT2 R) (σ : GS) (h : Heap) : KC k 18 c2 σ h (fun x σ h => G x (σ 4) (σ 5) h) = n2 k G (σ 0) (σ 1) (σ 4) h := by kernel_rfl
noncomputable def c3 : Code := cL c1
noncomputable def c4 : Code := cR c3
@[simp] def n4 {R : Type} (k : Nat) (G : KT4 R) (v0 v1 v4 v5 v13 : GV) (h : Heap) : Option R := kcond v13 ((gfill (fun i => [(0, 1), (1, 1)][i]?) [(.int .i64 0), .nils] []).bind fun c => kagg c h fun v14 h => (kstore 2 h v4 v14).bind fun h => G .ret v0 v1 v4 (.bool false) h) (G .nrm v0 v1 v4 v5 h)
theorem n4_eq {R : Type} (k : Nat) (G : KT4 R) (σ : GS) (h : Heap) : KC k 18 c4 σ h (fun x σ h => G x (σ 0) (σ 1) (σ 4) (σ 5) h) = n4 k G (σ 0) (σ 1) (σ 4) (σ 5) (σ 13) h := by kernel_rfl
noncomputable def c5 : Code := cL c3
noncomputable def o5 : Array Oper := cO c5
@[simp] def g5_2 {R : Type} (k : Nat) (G : KT5 R) (v0 v1 v4 v5 v9 v12 : GV) (h : Heap) : Option R := (kpick v9 (.bool true) v12).bind fun v13 => G .nrm v0 v1 v4 v5 v13 h
theorem g5_2_eq {R : Type} (k : Nat) (G : KT5 R) (σ : GS) (h : Heap) : kgroups PP cfg NN HH 18 o5 [(none, [7])] σ h (fun σ h => G .nrm (σ 0) (σ 1) (σ 4) (σ 5) (σ 13) h) = g5_2 k G (σ 0) (σ 1) (σ 4) (σ 5) (σ 9) (σ 12) h := by kernel_rfl
@[simp] def g5_1 {R : Type} (k : Nat) (G : KT5 R) (v0 v1 v4 v5 v9 : GV) (h : Heap) : Option R := bif tr false v9 then (kN NN fn.spec_l1In [v1, (.int .i64 1), (.int .i64 30)] h).bind fun v11 => (kun .not v11).bind fun v12 => g5_2 k G v0 v1 v4 v5 v9 v12 h else g5_2 k G v0 v1 v4 v5 v9 .un h
theorem g5_1_eq0 {R : Type} (k : Nat) (G : KT5 R) (σ : GS) (h : Heap) : kgroup1 PP cfg NN HH 18 o5 (some (3, false), [4, 5, 6]) σ h (fun σ h => g5_2 k G (σ 0) (σ 1) (σ 4) (σ 5) (σ 9) (σ 12) h) = g5_1 k G (σ 0) (σ 1) (σ 4) (σ 5) (σ 9) h := by kernel_rfl
theorem g5_1_eq {R : Type} (k : Nat) (G : KT5 R) (σ : GS) (h : Heap) : kgroups PP cfg NN HH 18 o5 [(some (3, false), [4, 5, 6]), (none, [7])] σ h (fun σ h => G .nrm (σ 0) (σ 1) (σ 4) (σ 5) (σ 13) h) = g5_1 k G (σ 0) (σ 1) (σ 4) (σ 5) (σ 9) h := (kgroups_cons (fun σ h => g5_2_eq k G σ h)).trans (g5_1_eq0 k G σ h)
@[simp] def g5_0 {R : Type} (k : Nat) (G : KT5 R) (v0 v1 v4 v5 : GV) (h : Heap) : Option R := (kN NN fn.spec_l1In [v0, (.int .i64 1), (.int .i64 60)] h).bind fun v7 => (kun .not v7).bind fun v8 => g5_1 k G v0 v1 v4 v5 v8 h
theorem g5_0_eq0 {R : Type} (k : Nat) (G : KT5 R) (σ : GS) (h : Heap) : kgroup1 PP cfg NN HH 18 o5 (none, [0, 1, 2, 3]) σ h (fun σ h => g5_1 k G (σ 0) (σ 1) (σ 4) (σ 5) (σ 9) h) = g5_0 k G (σ 0) (σ 1) (σ 4) (σ 5) h := by kernel_rfl
theorem g5_0_eq {R : Type} (k : Nat) (G : KT5 R) (σ : GS) (h : Heap) : kgroups PP cfg NN HH 18 o5 [(none, [0, 1, 2, 3]), (some (3, false), [4, 5, 6]), (none, [7])] σ h (fun σ h => G .nrm (σ 0) (σ 1) (σ 4) (σ 5) (σ 13) h) = g5_0 k G (σ 0) (σ 1) (σ 4) (σ 5) h := (kgroups_cons (fun σ h => g5_1_eq k G σ h)).trans (g5_0_eq0 k G σ h)
@[simp] def n5 {R : Type} (k : Nat) (G : KT5 R) (v0 v1 v4 v5 : GV) (h : Heap) : Option R := g5_0 k G v0 v1 v4 v5 h
theorem n5_eq {R : Type} (k : Nat) (G : KT5 R) (σ : GS) (h : Heap) : KC k 18 c5 σ h (fun x σ h => G x (σ 0) (σ 1) (σ 4) (σ 5) (σ 13) h) = n5 k G (σ 0) (σ 1) (σ 4) (σ 5) h := (kregion_eq (id := 1) (draw := false) (ops := o5) (gs := [(none, [0, 1, 2, 3]), (some (3, false), [4, 5, 6]), (none, [7])]) (by kernel_rfl) (by kernel_rfl) (by kernel_rfl)).trans (g5_0_eq k G σ h)
@[simp] def n3 {R : Type} (k : Nat) (G : KT4 R) (v0 v1 v4 v5 : GV) (h : Heap) : Option R := n5 k (fun x v0 v1 v4 v5 v13 h => kx x (n4 k G v0 v1 v4 v5 v13 h) (G x v0 v1 v4 v5 h)) v0 v1 v4 v5 h
theorem n3_eq {R : Type} (k : Nat) (G : KT4 R) (σ : GS) (h : Heap) : KC k 18 c3 σ h (fun x σ h => G x (σ 0) (σ 1) (σ 4) (σ 5) h) = n3 k G (σ 0) (σ 1) (σ 4) (σ 5) h := (kseq (b := c4) rfl (fun σ h => n4_eq k G σ h)).trans (n5_eq k (fun x v0 v1 v4 v5 v13 h => kx x (n4 k G v0 v1 v4 v5 v13 h) (G x v0 v1 v4 v5 h)) σ h)
@[simp] def n1 {R : Type} (k : Nat) (G : KT2 R) (v0 v1 v4 v5 : GV) (h : Heap) : Option R := n3 k (fun x v0 v1 v4 v5 h => kx x (n2 k G v0 v1 v4 h) (G x v4 v5 h)) v0 v1 v4 v5 h
theorem n1_eq {R : Type} (k : Nat) (G : KT2 R) (σ : GS) (h : Heap) : KC k 18 c1 σ h (fun x σ h => G x (σ 4) (σ 5) h) = n1 k G (σ 0) (σ 1) (σ 4) (σ 5) h := (kseq (b := c2) rfl (fun σ h => n2_eq k G σ h)).trans (n3_eq k (fun x v0 v1 v4 v5 h => kx x (n2 k G v0 v1 v4 h) (G x v4 v5 h)) σ h)
noncomputable def c6 : Code := cL c0
@[simp] def n0 {R : Type} (k : Nat) (G : KT2 R) (v0 v1 : GV) (h : Heap) : Option R := kalloc [(.int .i64 0), .nils] h fun v4 h => n1 k G v0 v1 v4 (.bool false) h
theorem n0_eq0 {R : Type} (k : Nat) (G : KT2 R) (σ : GS) (h : Heap) : KC k 18 c6 σ h (fun x σ h => kx x (n1 k G (σ 0) (σ 1) (σ 4) (σ 5) h) (G x (σ 4) (σ 5) h)) = n0 k G (σ 0) (σ 1) h := by kernel_rfl
theorem n0_eq {R : Type} (k : Nat) (G : KT2 R) (σ : GS) (h : Heap) : KC k 18 c0 σ h (fun x σ h => G x (σ 4) (σ 5) h) = n0 k G (σ 0) (σ 1) h := (kseq (b := c1) rfl (fun σ h => n1_eq k G σ h)).trans (n0_eq0 k G σ h)
def run {R : Type} (k : Nat) (a0 : GV) (a1 : GV) (h : Heap) (fin : GV → Heap → Option R) : Option R := n0 k (fun x v4 v5 h => kend x ((kloadA 2 h v4).bind fun w4 => fin (.tup [w4, v5]) h)) a0 a1 h
theorem run_eq {R : Type} (k : Nat) (a0 : GV) (a1 : GV) (h : Heap) (fin : GV → Heap → Option R) : kfun PP cfg NN HH k fn.spec_NewGrid [a0, a1] h fin = run k a0 a1 h fin := (kfun_eq (nt := 18) (c := c0) (show PP.funcs[fn.spec_NewGrid]? = some Try.f92 by kernel_rfl) (by kernel_rfl) (by kernel_rfl) (fun x σ h => by cases x <;> kernel_rfl)).trans (n0_eq k (fun x v4 v5 h => kend x ((kloadA 2 h v4).bind fun w4 => fin (.tup [w4, v5]) h)) _ h)
theorem gives {k : Nat} {a0 : GV} {a1 : GV} {v : GV} (e : run k a0 a1 [] finN = some v) : NN fn.spec_NewGrid [a0, a1] = some v := nω_of (by kernel_rfl) ((run_eq k a0 a1 [] finN).trans e)
end S.spec_NewGrid
/-! spec_l7New -/
namespace S.spec_l7New
noncomputable def c0 : Code := bodyOf Try.f93
@[simp] def n0 {R : Type} (k : Nat) (G : KT1 R) (v0 v1 : GV) (h : Heap) : Option R := kalloc [(.int .i64 0), .nils, (.int .i64 0), .nils, (.int .i64 0), (.int .i64 0), (.int .i64 0), (.int .i64 0), (.bool false), (.bool false), (.bool false), (.int .i64 0), (.int .i64 0), (.bool false), (.bool false), (.bool false), (.bool false), (.int .i64 0), (.int .i64 0), (.int .i64 0), (.int .i64 0), (.bool false), (.bool false), (.bool false), .nils, (.int .i64 0), .nils, (.int .i64 0), .nils, (.str { data := #[] })] h fun v4 h => (kF false HH fn.spec_l5New [v0, v1] h).bind fun r => kr r fun v7 h => (kF false HH fn.spec_l5New [v0, v1] h).bind fun r => kr r fun v10 h => (kbin .sub v1 (.int .i64 1)).bind fun v12 => (kF false HH fn.spec_l6State [(.int .i64 1)] h).bind fun r => kr r fun v13 h => (gfill (fun i => [(0, 2), (2, 2), (4, 1), (5, 1), (6, 5), (11, 1), (12, 1), (13, 1), (14, 1), (15, 1), (16, 1), (17, 1), (18, 1), (19, 5), (24, 1), (25, 4), (29, 1)][i]?) [(.int .i64 0), .nils, (.int .i64 0), .nils, (.int .i64 0), (.int .i64 0), (.int .i64 0), (.int .i64 0), (.bool false), (.bool false), (.bool false), (.int .i64 0), (.int .i64 0), (.bool false), (.bool false), (.bool false), (.bool false), (.int .i64 0), (.int .i64 0), (.int .i64 0), (.int .i64 0), (.bool false), (.bool false), (.bool false), .nils, (.int .i64 0), .nils, (.int .i64 0), .nils, (.str { data := #[] })] [(0, v7), (1, v10), (6, v12), (8, (.bool true)), (15, v13)]).bind fun c => kagg c h fun v14 h => (kstore 30 h v4 v14).bind fun h => G .ret v4 h
theorem n0_eq {R : Type} (k : Nat) (G : KT1 R) (σ : GS) (h : Heap) : KC k 15 c0 σ h (fun x σ h => G x (σ 4) h) = n0 k G (σ 0) (σ 1) h := by kernel_rfl
def run {R : Type} (k : Nat) (a0 : GV) (a1 : GV) (h : Heap) (fin : GV → Heap → Option R) : Option R := n0 k (fun x v4 h => kend x ((kloadA 30 h v4).bind fun w4 => fin w4 h)) a0 a1 h
theorem run_eq {R : Type} (k : Nat) (a0 : GV) (a1 : GV) (h : Heap) (fin : GV → Heap → Option R) : kfun PP cfg NN HH k fn.spec_l7New [a0, a1] h fin = run k a0 a1 h fin := (kfun_eq (nt := 15) (c := c0) (show PP.funcs[fn.spec_l7New]? = some Try.f93 by kernel_rfl) (by kernel_rfl) (by kernel_rfl) (fun x σ h => by cases x <;> kernel_rfl)).trans (n0_eq k (fun x v4 h => kend x ((kloadA 30 h v4).bind fun w4 => fin w4 h)) _ h)
theorem gives {k : Nat} {a0 : GV} {a1 : GV} {b : Nat} {q : GV × List (List GV)} (e : run k a0 a1 [] (finO b) = some q) : OO fn.spec_l7New [a0, a1] b = some q := oω_of ((run_eq k a0 a1 [] (finO b)).trans e)
end S.spec_l7New
/-! impl_newTerm -/
namespace S.impl_newTerm
noncomputable def c0 : Code := bodyOf Try.f94
@[simp] def n0 {R : Type} (k : Nat) (G : KT1 R) (v0 v1 : GV) (h : Heap) : Option R := kalloc [(.int .i64 0), .nils, (.int .i64 0), .nils, (.int .i64 0), (.int .i64 0), (.int .i64 0), (.int .i64 0), (.bool false), (.bool false), (.bool false), (.int .i64 0), (.int .i64 0), (.bool false), (.bool false), (.bool false), (.bool false), (.int .i64 0), (.int .i64 0), (.int .i64 0), (.int .i64 0), (.bool false), (.bool false), (.bool false), .nils, (.int .i64 0), .nils, (.int .i64 0), .nils, (.str { data := #[] })] h fun v4 h => (kF false HH fn.impl_NewGrid [v0, v1] h).bind fun r => kr r fun v10 h => (kxt 0 v10).bind fun v11 => (kxt 1 v10).bind fun v12 => kalloc [(.int .i64 0), .nils] h fun v5 h => (kstore 2 h v5 v11).bind fun h => (kloadA 2 h v5).bind fun v13 => (kloadA 2 h v5).bind fun v14 => (kF false HH fn.impl_Grid_copied [v14] h).bind fun r => kr r fun v15 h => (kbin .sub v1 (.int .i64 1)).bind fun v17 => (gfill (fun i => [(0, 1), (1, 1), (2, 1), (3, 1)][i]?) [(.int .i64 0), .nils, (.int .i64 0), .nils] [(0, (.int .i64 1))]).bind fun c => kagg c h fun v18 h => (gfill (fun i => [(0, 2), (2, 2), (4, 1), (5, 1), (6, 5), (11, 1), (12, 1), (13, 1), (14, 1), (15, 1), (16, 1), (17, 1), (18, 1), (19, 5), (24, 1), (25, 4), (29, 1)][i]?) [(.int .i64 0), .nils, (.int .i64 0), .nils, (.int .i64 0), (.int .i64 0), (.int .i64 0), (.int .i64 0), (.bool false), (.bool false), (.bool false), (.int .i64 0), (.int .i64 0), (.bool false), (.bool false), (.bool false), (.bool false), (.int .i64 0), (.int .i64 0), (.int .i64 0), (.int .i64 0), (.bool false), (.bool false), (.bool false), .nils, (.int .i64 0), .nils, (.int .i64 0), .nils, (.str { data := #[] })] [(0, v13), (1, v15), (6, v17), (8, (.bool true)), (15, v18)]).bind fun c => kagg c h fun v19 h => (kstore 30 h v4 v19).bind fun h => G .ret v4 h
theorem n0_eq {R : Type} (k : Nat) (G : KT1 R) (σ : GS) (h : Heap) : KC k 20 c0 σ h (fun x σ h => G x (σ 4) h) = n0 k G (σ 0) (σ 1) h := by kernel_rfl
def run {R : Type} (k : Nat) (a0 : GV) (a1 : GV) (h : Heap) (fin : GV → Heap → Option R) : Option R := n0 k (fun x v4 h => kend x ((kloadA 30 h v4).bind fun w4 => fin w4 h)) a0 a1 h
theorem run_eq {R : Type} (k : Nat) (a0 : GV) (a1 : GV) (h : Heap) (fin : GV → Heap → Option R) : kfun PP cfg NN HH k fn.impl_newTerm [a0, a1] h fin = run k a0 a1 h fin := (kfun_eq (nt := 20) (c := c0) (show PP.funcs[fn.impl_newTerm]? = some Try.f94 by kernel_rfl) (by kernel_rfl) (by kernel_rfl) (fun x σ h => by cases x <;> kernel_rfl)).trans (n0_eq k (fun x v4 h => kend x ((kloadA 30 h v4).bind fun w4 => fin w4 h)) _ h)
theorem gives {k : Nat} {a0 : GV} {a1 : GV} {b : Nat} {q : GV × List (List GV)} (e : run k a0 a1 [] (finO b) = some q) : OO fn.impl_newTerm [a0, a1] b = some q := oω_of ((run_eq k a0 a1 [] (finO b)).trans e)
end S.impl_newTerm
/-! spec_l5New -/
namespace S.spec_l5New
noncomputable def c0 : Code := bodyOf Try.f116
noncomputable def c1 : Code := cR c0
noncomputable def c2 : Code := cR c1
noncomputable def c3 : Code := cR c2
@[simp] def n3 {R : Type} (k : Nat) (G : KT1 R) (v4 v5 : GV) (h : Heap) : Option R := (kloadA 2 h v5).bind fun v22 => (kstore 2 h v4 v22).bind fun h => G .ret v4 h
theorem n3_eq {R : Type} (k : Nat) (G : KT1 R) (σ : GS) (h : Heap) : KC k 23 c3 σ h (fun x σ h => G x (σ 4) h) = n3 k G (σ 4) (σ 5) h := by kernel_rfl
noncomputable def c4 : Code := cL c2
noncomputable def c5 : Code := cR c4
noncomputable def c6 : Code := cL c5
noncomputable def c7 : Code := cL c6
noncomputable def c8 : Code := cR c7
noncomputable def c9 : Code := cR c8
@[simp] def n9 {R : Type} (k : Nat) (G : KT5 R) (v0 v1 v4 v5 v6 : GV) (h : Heap) : Option R := (kbin .add v6 (.int .i64 1)).bind fun v13 => G .nrm v0 v1 v4 v5 v13 h
theorem n9_eq {R : Type} (k : Nat) (G : KT5 R) (σ : GS) (h : Heap) : KC k 23 c9 σ h (fun x σ h => G x (σ 0) (σ 1) (σ 4) (σ 5) (σ 6) h) = n9 k G (σ 0) (σ 1) (σ 4) (σ 5) (σ 6) h := by kernel_rfl
noncomputable def c10 : Code := cL c8
noncomputable def c11 : Code := cL c10
@[simp] def n11 {R : Type} (k : Nat) (G : KT5 R) (v0 v1 v4 v5 v6 : GV) (h : Heap) : Option R := (kfa 1 v5).bind fun v14 => (kload1 h v14).bind fun v15 => (gfill (fun i => [(0, 1), (1, 1), (2, 1), (3, 1), (4, 1)][i]?) [(.int .i64 0), (.int .i64 0), (.bool false), (.bool false), (.bool false)] []).bind fun c => kagg c h fun v17 h => (kF false HH fn.spec_l4Row [v0, v17] h).bind fun r => kr r fun v18 h => (gfill (fun i => some (i * 1, 1)) (zeros [.nils] 1) [(0, v18)]).bind fun c => kbs 1 1 c h fun v19 h => (kapp [.nils] 1 24 v15 v19 h).bind fun r => kr r fun v20 h => (kfa 1 v5).bind fun v21 => (kstore 1 h v21 v20).bind fun h => G .nrm v0 v1 v4 v5 v6 h
theorem n11_eq {R : Type} (k : Nat) (G : KT5 R) (σ : GS) (h : Heap) : KC k 23 c11 σ h (fun x σ h => G x (σ 0) (σ 1) (σ 4) (σ 5) (σ 6) h) = n11 k G (σ 0) (σ 1) (σ 4) (σ 5) (σ 6) h := by kernel_rfl
@[simp] def n10 {R : Type} (k : Nat) (G : KT5 R) (v0 v1 v4 v5 v6 : GV) (h : Heap) : Option R := n11 k (fun x v0 v1 v4 v5 v6 h => kb 1 x fun x => G x v0 v1 v4 v5 v6 h) v0 v1 v4 v5 v6 h
theorem n10_eq {R : Type} (k : Nat) (G : KT5 R) (σ : GS) (h : Heap) : KC k 23 c10 σ h (fun x σ h => G x (σ 0) (σ 1) (σ 4) (σ 5) (σ 6) h) = n10 k G (σ 0) (σ 1) (σ 4) (σ 5) (σ 6) h := (kblock_eq (a := c11) rfl).trans (n11_eq k (fun x v0 v1 v4 v5 v6 h => kb 1 x fun x => G x v0 v1 v4 v5 v6 h) σ h)
@[simp] def n8 {R : Type} (k : Nat) (G : KT5 R) (v0 v1 v4 v5 v6 : GV) (h : Heap) : Option R := n10 k (fun x v0 v1 v4 v5 v6 h => kx x (n9 k G v0 v1 v4 v5 v6 h) (G x v0 v1 v4 v5 v6 h)) v0 v1 v4 v5 v6 h
theorem n8_eq {R : Type} (k : Nat) (G : KT5 R) (σ : GS) (h : Heap) : KC k 23 c8 σ h (fun x σ h => G x (σ 0) (σ 1) (σ 4) (σ 5) (σ 6) h) = n8 k G (σ 0) (σ 1) (σ 4) (σ 5) (σ 6) h := (kseq (b := c9) rfl (fun σ h => n9_eq k G σ h)).trans (n10_eq k (fun x v0 v1 v4 v5 v6 h => kx x (n9 k G v0 v1 v4 v5 v6 h) (G x v0 v1 v4 v5 v6 h)) σ h)
noncomputable def c12 : Code := cL c7
@[simp] def n7 {R : Type} (k : Nat) (G : KT5 R) (v0 v1 v4 v5 v6 : GV) (h : Heap) : Option R := (kbin .lss v6 v1).bind fun v11 => kcond v11 (n8 k G v0 v1 v4 v5 v6 h) (G (.ext 0) v0 v1 v4 v5 v6 h)
theorem n7_eq0 {R : Type} (k : Nat) (G : KT5 R) (σ : GS) (h : Heap) : KC k 23 c12 σ h (fun x σ h => kx x (n8 k G (σ 0) (σ 1) (σ 4) (σ 5) (σ 6) h) (G x (σ 0) (σ 1) (σ 4) (σ 5) (σ 6) h)) = n7 k G (σ 0) (σ 1) (σ 4) (σ 5) (σ 6) h := by kernel_rfl
theorem n7_eq {R : Type} (k : Nat) (G : KT5 R) (σ : GS) (h : Heap) : KC k 23 c7 σ h (fun x σ h => G x (σ 0) (σ 1) (σ 4) (σ 5) (σ 6) h) = n7 k G (σ 0) (σ 1) (σ 4) (σ 5) (σ 6) h := (kseq (b := c8) rfl (fun σ h => n8_eq k G σ h)).trans (n7_eq0 k G σ h)
def l6 {R : Type} (k : Nat) (G : KT2 R) : Nat → GV → GV → GV → GV → GV → Heap → Option R
  | 0, _, _, _, _, _, _ => none
  | r + 1, v0, v1, v4, v5, v6, h => n7 k (fun x v0 v1 v4 v5 v6 h => kx x (l6 k G r v0 v1 v4 v5 v6 h) (G x v4 v5 h)) v0 v1 v4 v5 v6 h
theorem l6_eq {R : Type} (k : Nat) (G : KT2 R) : ∀ (r : Nat) (σ : GS) (h : Heap), kloop (fun σ h K => KC k 23 c7 σ h K) r σ h (fun x σ h => G x (σ 4) (σ 5) h) = l6 k G r (σ 0) (σ 1) (σ 4) (σ 5) (σ 6) h
  | 0, _, _ => rfl
  | r + 1, σ, h => (kloop_eq (fun σ h => l6_eq k G r σ h)).trans (n7_eq k (fun x v0 v1 v4 v5 v6 h => kx x (l6 k G r v0 v1 v4 v5 v6 h) (G x v4 v5 h)) σ h)
@[simp] def n6 {R : Type} (k : Nat) (G : KT2 R) (v0 v1 v4 v5 v6 : GV) (h : Heap) : Option R := l6 k G k v0 v1 v4 v5 v6 h
theorem n6_eq {R : Type} (k : Nat) (G : KT2 R) (σ : GS) (h : Heap) : KC k 23 c6 σ h (fun x σ h => G x (σ 4) (σ 5) h) = n6 k G (σ 0) (σ 1) (σ 4) (σ 5) (σ 6) h := (kloopc_eq (a := c7) rfl).trans (l6_eq k G k σ h)
@[simp] def n5 {R : Type} (k : Nat) (G : KT2 R) (v0 v1 v4 v5 v6 : GV) (h : Heap) : Option R := n6 k (fun x v4 v5 h => kb 0 x fun x => G x v4 v5 h) v0 v1 v4 v5 v6 h
theorem n5_eq {R : Type} (k : Nat) (G : KT2 R) (σ : GS) (h : Heap) : KC k 23 c5 σ h (fun x σ h => G x (σ 4) (σ 5) h) = n5 k G (σ 0) (σ 1) (σ 4) (σ 5) (σ 6) h := (kblock_eq (a := c6) rfl).trans (n6_eq k (fun x v4 v5 h => kb 0 x fun x => G x v4 v5 h) σ h)
noncomputable def c13 : Code := cL c4
@[simp] def n4 {R : Type} (k : Nat) (G : KT2 R) (v0 v1 v4 v5 : GV) (h : Heap) : Option R := n5 k G v0 v1 v4 v5 (.int .i64 0) h
theorem n4_eq0 {R : Type} (k : Nat) (G : KT2 R) (σ : GS) (h : Heap) : KC k 23 c13 σ h (fun x σ h => kx x (n5 k G (σ 0) (σ 1) (σ 4) (σ 5) (σ 6) h) (G x (σ 4) (σ 5) h)) = n4 k G (σ 0) (σ 1) (σ 4) (σ 5) h := by kernel_rfl
theorem n4_eq {R : Type} (k : Nat) (G : KT2 R) (σ : GS) (h : Heap) : KC k 23 c4 σ h (fun x σ h => G x (σ 4) (σ 5) h) = n4 k G (σ 0) (σ 1) (σ 4) (σ 5) h := (kseq (b := c5) rfl (fun σ h => n5_eq k G σ h)).trans (n4_eq0 k G σ h)
@[simp] def n2 {R : Type} (k : Nat) (G : KT1 R) (v0 v1 v4 v5 : GV) (h : Heap) : Option R := n4 k (fun x v4 v5 h => kx x (n3 k G v4 v5 h) (G x v4 h)) v0 v1 v4 v5 h
theorem n2_eq {R : Type} (k : Nat) (G : KT1 R) (σ : GS) (h : Heap) : KC k 23 c2 σ h (fun x σ h => G x (σ 4) h) = n2 k G (σ 0) (σ 1) (σ 4) (σ 5) h := (kseq (b := c3) rfl (fun σ h => n3_eq k G σ h)).trans (n4_eq k (fun x v4 v5 h => kx x (n3 k G v4 v5 h) (G x v4 h)) σ h)
noncomputable def c14 : Code := cL c1
@[simp] def n1 {R : Type} (k : Nat) (G : KT1 R) (v0 v1 v4 : GV) (h : Heap) : Option R := (gfill (fun i => [(0, 1), (1, 1)][i]?) [(.int .i64 0), .nils] [(0, v0)]).bind fun c => kagg c h fun v8 h => kalloc [(.int .i64 0), .nils] h fun v5 h => (kstore 2 h v5 v8).bind fun h => n2 k G v0 v1 v4 v5 h
theorem n1_eq0 {R : Type} (k : Nat) (G : KT1 R) (σ : GS) (h : Heap) : KC k 23 c14 σ h (fun x σ h => kx x (n2 k G (σ 0) (σ 1) (σ 4) (σ 5) h) (G x (σ 4) h)) = n1 k G (σ 0) (σ 1) (σ 4) h := by kernel_rfl
theorem n1_eq {R : Type} (k : Nat) (G : KT1 R) (σ : GS) (h : Heap) : KC k 23 c1 σ h (fun x σ h => G x (σ 4) h) = n1 k G (σ 0) (σ 1) (σ 4) h := (kseq (b := c2) rfl (fun σ h => n2_eq k G σ h)).trans (n1_eq0 k G σ h)
noncomputable def c15 : Code := cL c0
@[simp] def n0 {R : Type} (k : Nat) (G : KT1 R) (v0 v1 : GV) (h : Heap) : Option R := kalloc [(.int .i64 0), .nils] h fun v4 h => n1 k G v0 v1 v4 h
theorem n0_eq0 {R : Type} (k : Nat) (G : KT1 R) (σ : GS) (h : Heap) : KC k 23 c15 σ h (fun x σ h => kx x (n1 k G (σ 0) (σ 1) (σ 4) h) (G x (σ 4) h)) = n0 k G (σ 0) (σ 1) h := by kernel_rfl
theorem n0_eq {R : Type} (k : Nat) (G : KT1 R) (σ : GS) (h : Heap) : KC k 23 c0 σ h (fun x σ h => G x (σ 4) h) = n0 k G (σ 0) (σ 1) h := (kseq (b := c1) rfl (fun σ h => n1_eq k G σ h)).trans (n0_eq0 k G σ h)
def run {R : Type} (k : Nat) (a0 : GV) (a1 : GV) (h : Heap) (fin : GV → Heap → Option R) : Option R := n0 k (fun x v4 h => kend x ((kloadA 2 h v4).bind fun w4 => fin w4 h)) a0 a1 h
theorem run_eq {R : Type} (k : Nat) (a0 : GV) (a1 : GV) (h : Heap) (fin : GV → Heap → Option R) : kfun PP cfg NN HH k fn.spec_l5New [a0, a1] h fin = run k a0 a1 h fin := (kfun_eq (nt := 23) (c := c0) (show PP.funcs[fn.spec_l5New]? = some Try.f116 by kernel_rfl) (by kernel_rfl) (by kernel_rfl) (fun x σ h => by cases x <;> kernel_rfl)).trans (n0_eq k (fun x v4 h => kend x ((kloadA 2 h v4).bind fun w4 => fin w4 h)) _ h)
theorem gives {k : Nat} {a0 : GV} {a1 : GV} {b : Nat} {q : GV × List (List GV)} (e : run k a0 a1 [] (finO b) = some q) : OO fn.spec_l5New [a0, a1] b = some q := oω_of ((run_eq k a0 a1 [] (finO b)).trans e)
end S.spec_l5New
/-! impl_Blank -/
namespace S.impl_Blank
noncomputable def c0 : Code := bodyOf Try.f117
noncomputable def c1 : Code := cR c0
noncomputable def c2 : Code := cR c1
@[simp] def n2 {R : Type} (k : Nat) (G : KT1 R) (v0 v3 : GV) (h : Heap) : Option R := (kloadA 5 h v3).bind fun v13 => (kN NN fn.impl_blank [v13] h).bind fun v14 => (gfill (fun i => some (i * 7, 7)) (zeros [(.int .i64 0), (.int .i64 0), (.int .i64 0), (.bool false), (.bool false), (.bool false), (.int .i64 0)] 1) [(0, v14)]).bind fun c => kbs 1 7 c h fun v15 h => (kF false HH fn.slices_Repeat_impl_Cell [v15, v0] h).bind fun r => kr r fun v17 h => G .ret v17 h
theorem n2_eq {R : Type} (k : Nat) (G : KT1 R) (σ : GS) (h : Heap) : KC k 18 c2 σ h (fun x σ h => G x (σ 4) h) = n2 k G (σ 0) (σ 3) h := by kernel_rfl
noncomputable def c3 : Code := cL c1
noncomputable def c4 : Code := cR c3
@[simp] def n4 {R : Type} (k : Nat) (G : KT3 R) (v0 v3 v4 v12 : GV) (h : Heap) : Option R := kcond v12 (G .ret v0 v3 .nils h) (G .nrm v0 v3 v4 h)
theorem n4_eq {R : Type} (k : Nat) (G : KT3 R) (σ : GS) (h : Heap) : KC k 18 c4 σ h (fun x σ h => G x (σ 0) (σ 3) (σ 4) h) = n4 k G (σ 0) (σ 3) (σ 4) (σ 12) h := by kernel_rfl
noncomputable def c5 : Code := cL c3
noncomputable def o5 : Array Oper := cO c5
@[simp] def g5_2 {R : Type} (k : Nat) (G : KT4 R) (v0 v3 v4 v8 v11 : GV) (h : Heap) : Option R := (kpick v8 (.bool true) v11).bind fun v12 => G .nrm v0 v3 v4 v12 h
theorem g5_2_eq {R : Type} (k : Nat) (G : KT4 R) (σ : GS) (h : Heap) : kgroups PP cfg NN HH 18 o5 [(none, [7])] σ h (fun σ h => G .nrm (σ 0) (σ 3) (σ 4) (σ 12) h) = g5_2 k G (σ 0) (σ 3) (σ 4) (σ 8) (σ 11) h := by kernel_rfl
@[simp] def g5_1 {R : Type} (k : Nat) (G : KT4 R) (v0 v3 v4 v8 : GV) (h : Heap) : Option R := bif tr false v8 then (kloadA 5 h v3).bind fun v9 => (kN NN fn.impl_StyleOk [v9] h).bind fun v10 => (kun .not v10).bind fun v11 => g5_2 k G v0 v3 v4 v8 v11 h else g5_2 k G v0 v3 v4 v8 .un h
theorem g5_1_eq0 {R : Type} (k : Nat) (G : KT4 R) (σ : GS) (h : Heap) : kgroup1 PP cfg NN HH 18 o5 (some (3, false), [4, 5, 6]) σ h (fun σ h => g5_2 k G (σ 0) (σ 3) (σ 4) (σ 8) (σ 11) h) = g5_1 k G (σ 0) (σ 3) (σ 4) (σ 8) h := by kernel_rfl
theorem g5_1_eq {R : Type} (k : Nat) (G : KT4 R) (σ : GS) (h : Heap) : kgroups PP cfg NN HH 18 o5 [(some (3, false), [4, 5, 6]), (none, [7])] σ h (fun σ h => G .nrm (σ 0) (σ 3) (σ 4) (σ 12) h) = g5_1 k G (σ 0) (σ 3) (σ 4) (σ 8) h := (kgroups_cons (fun σ h => g5_2_eq k G σ h)).trans (g5_1_eq0 k G σ h)
@[simp] def g5_0 {R : Type} (k : Nat) (G : KT4 R) (v0 v3 v4 : GV) (h : Heap) : Option R := (kN NN fn.impl_in [v0, (.int .i64 1), (.int .i64 60)] h).bind fun v6 => (kun .not v6).bind fun v7 => g5_1 k G v0 v3 v4 v7 h
theorem g5_0_eq0 {R : Type} (k : Nat) (G : KT4 R) (σ : GS) (h : Heap) : kgroup1 PP cfg NN HH 18 o5 (none, [0, 1, 2, 3]) σ h (fun σ h => g5_1 k G (σ 0) (σ 3) (σ 4) (σ 8) h) = g5_0 k G (σ 0) (σ 3) (σ 4) h := by kernel_rfl
theorem g5_0_eq {R : Type} (k : Nat) (G : KT4 R) (σ : GS) (h : Heap) : kgroups PP cfg NN HH 18 o5 [(none, [0, 1, 2, 3]), (some (3, false), [4, 5, 6]), (none, [7])] σ h (fun σ h => G .nrm (σ 0) (σ 3) (σ 4) (σ 12) h) = g5_0 k G (σ 0) (σ 3) (σ 4) h := (kgroups_cons (fun σ h => g5_1_eq k G σ h)).trans (g5_0_eq0 k G σ h)
@[simp] def n5 {R : Type} (k : Nat) (G : KT4 R) (v0 v3 v4 : GV) (h : Heap) : Option R := g5_0 k G v0 v3 v4 h
theorem n5_eq {R : Type} (k : Nat) (G : KT4 R) (σ : GS) (h : Heap) : KC k 18 c5 σ h (fun x σ h => G x (σ 0) (σ 3) (σ 4) (σ 12) h) = n5 k G (σ 0) (σ 3) (σ 4) h := (kregion_eq (id := 1) (draw := false) (ops := o5) (gs := [(none, [0, 1, 2, 3]), (some (3, false), [4, 5, 6]), (none, [7])]) (by kernel_rfl) (by kernel_rfl) (by kernel_rfl)).trans (g5_0_eq k G σ h)
@[simp] def n3 {R : Type} (k : Nat) (G : KT3 R) (v0 v3 v4 : GV) (h : Heap) : Option R := n5 k (fun x v0 v3 v4 v12 h => kx x (n4 k G v0 v3 v4 v12 h) (G x v0 v3 v4 h)) v0 v3 v4 h
theorem n3_eq {R : Type} (k : Nat) (G : KT3 R) (σ : GS) (h : Heap) : KC k 18 c3 σ h (fun x σ h => G x (σ 0) (σ 3) (σ 4) h) = n3 k G (σ 0) (σ 3) (σ 4) h := (kseq (b := c4) rfl (fun σ h => n4_eq k G σ h)).trans (n5_eq k (fun x v0 v3 v4 v12 h => kx x (n4 k G v0 v3 v4 v12 h) (G x v0 v3 v4 h)) σ h)
@[simp] def n1 {R : Type} (k : Nat) (G : KT1 R) (v0 v3 v4 : GV) (h : Heap) : Option R := n3 k (fun x v0 v3 v4 h => kx x (n2 k G v0 v3 h) (G x v4 h)) v0 v3 v4 h
theorem n1_eq {R : Type} (k : Nat) (G : KT1 R) (σ : GS) (h : Heap) : KC k 18 c1 σ h (fun x σ h => G x (σ 4) h) = n1 k G (σ 0) (σ 3) (σ 4) h := (kseq (b := c2) rfl (fun σ h => n2_eq k G σ h)).trans (n3_eq k (fun x v0 v3 v4 h => kx x (n2 k G v0 v3 h) (G x v4 h)) σ h)
noncomputable def c6 : Code := cL c0
@[simp] def n0 {R : Type} (k : Nat) (G : KT1 R) (v0 v1 : GV) (h : Heap) : Option R := kbox v1 h fun v3 h => n1 k G v0 v3 .nils h
theorem n0_eq0 {R : Type} (k : Nat) (G : KT1 R) (σ : GS) (h : Heap) : KC k 18 c6 σ h (fun x σ h => kx x (n1 k G (σ 0) (σ 3) (σ 4) h) (G x (σ 4) h)) = n0 k G (σ 0) (σ 1) h := by kernel_rfl
theorem n0_eq {R : Type} (k : Nat) (G : KT1 R) (σ : GS) (h : Heap) : KC k 18 c0 σ h (fun x σ h => G x (σ 4) h) = n0 k G (σ 0) (σ 1) h := (kseq (b := c1) rfl (fun σ h => n1_eq k G σ h)).trans (n0_eq0 k G σ h)
def run {R : Type} (k : Nat) (a0 : GV) (a1 : GV) (h : Heap) (fin : GV → Heap → Option R) : Option R := n0 k (fun x v4 h => kend x (fin v4 h)) a0 a1 h
theorem run_eq {R : Type} (k : Nat) (a0 : GV) (a1 : GV) (h : Heap) (fin : GV → Heap → Option R) : kfun PP cfg NN HH k fn.impl_Blank [a0, a1] h fin = run k a0 a1 h fin := (kfun_eq (nt := 18) (c := c0) (show PP.funcs[fn.impl_Blank]? = some Try.f117 by kernel_rfl) (by kernel_rfl) (by kernel_rfl) (fun x σ h => by cases x <;> kernel_rfl)).trans (n0_eq k (fun x v4 h => kend x (fin v4 h)) _ h)
theorem gives {k : Nat} {a0 : GV} {a1 : GV} {b : Nat} {q : GV × List (List GV)} (e : run k a0 a1 [] (finO b) = some q) : OO fn.impl_Blank [a0, a1] b = some q := oω_of ((run_eq k a0 a1 [] (finO b)).trans e)
end S.impl_Blank
end
end Go.Proofs.Ytleeifecdjolhaa.G
