/- What these functions do, told for open values, out of the machine with continuations. Printed by a program of this session. What these functions do, t -/
import Derived.Test.YtlbnioapepelnaaZ255b3419
import Derived.KernelRfl
set_option linter.unusedVariables false
set_option maxRecDepth 100000
namespace Go.Proofs.Ytlbnioapepelnaa.G
open Go.RowKit
abbrev KT0 (R : Type) : Type := GX → Heap → Option R
abbrev KT1 (R : Type) : Type := GX → GV → Heap → Option R
abbrev KT2 (R : Type) : Type := GX → GV → GV → Heap → Option R
abbrev KT3 (R : Type) : Type := GX → GV → GV → GV → Heap → Option R
abbrev KT4 (R : Type) : Type := GX → GV → GV → GV → GV → Heap → Option R
abbrev KT5 (R : Type) : Type := GX → GV → GV → GV → GV → GV → Heap → Option R
abbrev KT6 (R : Type) : Type := GX → GV → GV → GV → GV → GV → GV → Heap → Option R
abbrev KT7 (R : Type) : Type := GX → GV → GV → GV → GV → GV → GV → GV → Heap → Option R
abbrev KT8 (R : Type) : Type := GX → GV → GV → GV → GV → GV → GV → GV → GV → Heap → Option R
abbrev KT9 (R : Type) : Type := GX → GV → GV → GV → GV → GV → GV → GV → GV → GV → Heap → Option R
abbrev KT10 (R : Type) : Type := GX → GV → GV → GV → GV → GV → GV → GV → GV → GV → GV → Heap → Option R
abbrev KT11 (R : Type) : Type := GX → GV → GV → GV → GV → GV → GV → GV → GV → GV → GV → GV → Heap → Option R
noncomputable section
variable {R : Type} (k : Nat) (σ : GS) (h : Heap)
namespace S.impl_in
noncomputable def c0 := bodyOf Try.f105
noncomputable def c1 := cR c0
noncomputable def c2 := cR c1
@[simp] def n2 {R : Type} (k : Nat) (G : KT1 R) (v6 : GV) (h : Heap) := G .ret v6 h
theorem n2_eq (G : KT1 R) : KC k 15 c2 σ h (Q1 G 6) = n2 k G (σ 6) h := by kernel_rfl
noncomputable def c3 := cL c1
noncomputable def o3 : Array Oper := cO c3
@[simp] def g3_2 {R : Type} (k : Nat) (G : KT1 R) (v10 v13 : GV) (h : Heap) := (kpick v10 v13 (.bool false)).bind fun v14 => G .nrm v14 h
theorem g3_2_eq (G : KT1 R) : kgroups PP cfg NN HH 15 o3 [(none, [7, 8])] σ h (fun σ h => G .nrm (σ 6) h) = W2 (g3_2 k G) 10 13 σ h := by kernel_rfl
@[simp] def g3_1 (G : KT1 R) (v0 v2 v10 : GV) (h : Heap) := bif tr true v10 then (kbin .leq v0 v2).bind fun v13 => g3_2 k G v10 v13 h else g3_2 k G v10 .un h
theorem g3_1_eq (G : KT1 R) : kgroups PP cfg NN HH 15 o3 [(some (3, true), [4, 5, 6]), (none, [7, 8])] σ h (fun σ h => G .nrm (σ 6) h) = W3 (g3_1 k G) 0 2 10 σ h := (kgroups_cons (fun σ h => g3_2_eq k σ h G)).trans (by kernel_rfl)
@[simp] def g3_0 (G : KT1 R) (v0 v1 v2 : GV) (h : Heap) := (kbin .leq v1 v0).bind fun v9 => g3_1 k G v0 v2 v9 h
theorem g3_0_eq (G : KT1 R) : kgroups PP cfg NN HH 15 o3 [(none, [0, 1, 2, 3]), (some (3, true), [4, 5, 6]), (none, [7, 8])] σ h (fun σ h => G .nrm (σ 6) h) = W3 (g3_0 k G) 0 1 2 σ h := (kgroups_cons (fun σ h => g3_1_eq k σ h G)).trans (by kernel_rfl)
@[simp] def n3 (G : KT1 R) (v0 v1 v2 : GV) (h : Heap) := g3_0 k G v0 v1 v2 h
theorem n3_eq (G : KT1 R) : KC k 15 c3 σ h (Q1 G 6) = W3 (n3 k G) 0 1 2 σ h := (kregion_eq (id := 1) (draw := false) (ops := o3) (gs := [(none, [0, 1, 2, 3]), (some (3, true), [4, 5, 6]), (none, [7, 8])]) (by kernel_rfl) (by kernel_rfl) (by kernel_rfl)).trans (g3_0_eq k σ h G)
@[simp] def n1 (G : KT1 R) (v0 v1 v2 : GV) (h : Heap) := n3 k (fun x v6 h => kx x (n2 k G v6 h) (G x v6 h)) v0 v1 v2 h
theorem n1_eq (G : KT1 R) : KC k 15 c1 σ h (Q1 G 6) = W3 (n1 k G) 0 1 2 σ h := (kseq (b := c2) rfl (fun σ h => n2_eq k σ h G)).trans (n3_eq k σ h (fun x v6 h => kx x (n2 k G v6 h) (G x v6 h)))
noncomputable def c4 := cL c0
@[simp] def n0 (G : KT1 R) (v0 v1 v2 : GV) (h : Heap) := n1 k G v0 v1 v2 h
theorem n0_eq (G : KT1 R) : KC k 15 c0 σ h (Q1 G 6) = W3 (n0 k G) 0 1 2 σ h := (kseq (a := c4) (b := c1) rfl (fun σ h => n1_eq k σ h G)).trans (by kernel_rfl)
def run {R : Type} (k : Nat) (a0 a1 a2 : GV) (h : Heap) (fin : GV → Heap → Option R) : Option R := n0 k (fun x v6 h => kend x (fin v6 h)) a0 a1 a2 h
theorem gives {k : Nat} {a0 a1 a2 : GV} {v : GV} (e : run k a0 a1 a2 [] finN = some v) : NN fn.impl_in [a0, a1, a2] = some v := nω_of (by kernel_rfl) (((kfun_eq (nt := 15) (c := c0) (show PP.funcs[fn.impl_in]? = some Try.f105 by kernel_rfl) (by kernel_rfl) (by kernel_rfl) (fun x σ h => by cases x <;> kernel_rfl)).trans (n0_eq k _ [] _)).trans e)
end S.impl_in
namespace S.spec_l1In
noncomputable def c0 := bodyOf Try.f119
noncomputable def c1 := cR c0
noncomputable def c2 := cR c1
@[simp] def n2 {R : Type} (k : Nat) (G : KT1 R) (v6 : GV) (h : Heap) := G .ret v6 h
theorem n2_eq (G : KT1 R) : KC k 15 c2 σ h (Q1 G 6) = n2 k G (σ 6) h := by kernel_rfl
noncomputable def c3 := cL c1
noncomputable def o3 : Array Oper := cO c3
@[simp] def g3_2 {R : Type} (k : Nat) (G : KT1 R) (v10 v13 : GV) (h : Heap) := (kpick v10 v13 (.bool false)).bind fun v14 => G .nrm v14 h
theorem g3_2_eq (G : KT1 R) : kgroups PP cfg NN HH 15 o3 [(none, [7, 8])] σ h (fun σ h => G .nrm (σ 6) h) = W2 (g3_2 k G) 10 13 σ h := by kernel_rfl
@[simp] def g3_1 (G : KT1 R) (v0 v2 v10 : GV) (h : Heap) := bif tr true v10 then (kbin .leq v0 v2).bind fun v13 => g3_2 k G v10 v13 h else g3_2 k G v10 .un h
theorem g3_1_eq (G : KT1 R) : kgroups PP cfg NN HH 15 o3 [(some (3, true), [4, 5, 6]), (none, [7, 8])] σ h (fun σ h => G .nrm (σ 6) h) = W3 (g3_1 k G) 0 2 10 σ h := (kgroups_cons (fun σ h => g3_2_eq k σ h G)).trans (by kernel_rfl)
@[simp] def g3_0 (G : KT1 R) (v0 v1 v2 : GV) (h : Heap) := (kbin .geq v0 v1).bind fun v9 => g3_1 k G v0 v2 v9 h
theorem g3_0_eq (G : KT1 R) : kgroups PP cfg NN HH 15 o3 [(none, [0, 1, 2, 3]), (some (3, true), [4, 5, 6]), (none, [7, 8])] σ h (fun σ h => G .nrm (σ 6) h) = W3 (g3_0 k G) 0 1 2 σ h := (kgroups_cons (fun σ h => g3_1_eq k σ h G)).trans (by kernel_rfl)
@[simp] def n3 (G : KT1 R) (v0 v1 v2 : GV) (h : Heap) := g3_0 k G v0 v1 v2 h
theorem n3_eq (G : KT1 R) : KC k 15 c3 σ h (Q1 G 6) = W3 (n3 k G) 0 1 2 σ h := (kregion_eq (id := 1) (draw := false) (ops := o3) (gs := [(none, [0, 1, 2, 3]), (some (3, true), [4, 5, 6]), (none, [7, 8])]) (by kernel_rfl) (by kernel_rfl) (by kernel_rfl)).trans (g3_0_eq k σ h G)
@[simp] def n1 (G : KT1 R) (v0 v1 v2 : GV) (h : Heap) := n3 k (fun x v6 h => kx x (n2 k G v6 h) (G x v6 h)) v0 v1 v2 h
theorem n1_eq (G : KT1 R) : KC k 15 c1 σ h (Q1 G 6) = W3 (n1 k G) 0 1 2 σ h := (kseq (b := c2) rfl (fun σ h => n2_eq k σ h G)).trans (n3_eq k σ h (fun x v6 h => kx x (n2 k G v6 h) (G x v6 h)))
noncomputable def c4 := cL c0
@[simp] def n0 (G : KT1 R) (v0 v1 v2 : GV) (h : Heap) := n1 k G v0 v1 v2 h
theorem n0_eq (G : KT1 R) : KC k 15 c0 σ h (Q1 G 6) = W3 (n0 k G) 0 1 2 σ h := (kseq (a := c4) (b := c1) rfl (fun σ h => n1_eq k σ h G)).trans (by kernel_rfl)
def run {R : Type} (k : Nat) (a0 a1 a2 : GV) (h : Heap) (fin : GV → Heap → Option R) : Option R := n0 k (fun x v6 h => kend x (fin v6 h)) a0 a1 a2 h
theorem gives {k : Nat} {a0 a1 a2 : GV} {v : GV} (e : run k a0 a1 a2 [] finN = some v) : NN fn.spec_l1In [a0, a1, a2] = some v := nω_of (by kernel_rfl) (((kfun_eq (nt := 15) (c := c0) (show PP.funcs[fn.spec_l1In]? = some Try.f119 by kernel_rfl) (by kernel_rfl) (by kernel_rfl) (fun x σ h => by cases x <;> kernel_rfl)).trans (n0_eq k _ [] _)).trans e)
end S.spec_l1In
namespace S.impl_RuneOk
noncomputable def c0 := bodyOf Try.f224
noncomputable def c1 := cR c0
noncomputable def c2 := cR c1
@[simp] def n2 {R : Type} (k : Nat) (G : KT1 R) (v2 : GV) (h : Heap) := G .ret v2 h
theorem n2_eq (G : KT1 R) : KC k 10 c2 σ h (Q1 G 2) = n2 k G (σ 2) h := by kernel_rfl
noncomputable def c3 := cL c1
noncomputable def o3 : Array Oper := cO c3
@[simp] def g3_2 {R : Type} (k : Nat) (G : KT1 R) (v5 v8 : GV) (h : Heap) := (kpick v5 v8 (.bool false)).bind fun v9 => G .nrm v9 h
theorem g3_2_eq (G : KT1 R) : kgroups PP cfg NN HH 10 o3 [(none, [6, 7])] σ h (fun σ h => G .nrm (σ 2) h) = W2 (g3_2 k G) 5 8 σ h := by kernel_rfl
@[simp] def g3_1 (G : KT1 R) (v0 v5 : GV) (h : Heap) := bif tr true v5 then (kN NN fn.impl_in [v0, (.int .i64 55296), (.int .i64 57343)] h).bind fun v7 => (kun .not v7).bind fun v8 => g3_2 k G v5 v8 h else g3_2 k G v5 .un h
theorem g3_1_eq (G : KT1 R) : kgroups PP cfg NN HH 10 o3 [(some (2, true), [3, 4, 5]), (none, [6, 7])] σ h (fun σ h => G .nrm (σ 2) h) = W2 (g3_1 k G) 0 5 σ h := (kgroups_cons (fun σ h => g3_2_eq k σ h G)).trans (by kernel_rfl)
@[simp] def g3_0 (G : KT1 R) (v0 : GV) (h : Heap) := (kN NN fn.impl_in [v0, (.int .i64 0), (.int .i64 1114111)] h).bind fun v4 => g3_1 k G v0 v4 h
theorem g3_0_eq (G : KT1 R) : kgroups PP cfg NN HH 10 o3 [(none, [0, 1, 2]), (some (2, true), [3, 4, 5]), (none, [6, 7])] σ h (fun σ h => G .nrm (σ 2) h) = g3_0 k G (σ 0) h := (kgroups_cons (fun σ h => g3_1_eq k σ h G)).trans (by kernel_rfl)
@[simp] def n3 (G : KT1 R) (v0 : GV) (h : Heap) := g3_0 k G v0 h
theorem n3_eq (G : KT1 R) : KC k 10 c3 σ h (Q1 G 2) = n3 k G (σ 0) h := (kregion_eq (id := 1) (draw := false) (ops := o3) (gs := [(none, [0, 1, 2]), (some (2, true), [3, 4, 5]), (none, [6, 7])]) (by kernel_rfl) (by kernel_rfl) (by kernel_rfl)).trans (g3_0_eq k σ h G)
@[simp] def n1 (G : KT1 R) (v0 : GV) (h : Heap) := n3 k (fun x v2 h => kx x (n2 k G v2 h) (G x v2 h)) v0 h
theorem n1_eq (G : KT1 R) : KC k 10 c1 σ h (Q1 G 2) = n1 k G (σ 0) h := (kseq (b := c2) rfl (fun σ h => n2_eq k σ h G)).trans (n3_eq k σ h (fun x v2 h => kx x (n2 k G v2 h) (G x v2 h)))
noncomputable def c4 := cL c0
@[simp] def n0 (G : KT1 R) (v0 : GV) (h : Heap) := n1 k G v0 h
theorem n0_eq (G : KT1 R) : KC k 10 c0 σ h (Q1 G 2) = n0 k G (σ 0) h := (kseq (a := c4) (b := c1) rfl (fun σ h => n1_eq k σ h G)).trans (by kernel_rfl)
def run {R : Type} (k : Nat) (a0 : GV) (h : Heap) (fin : GV → Heap → Option R) : Option R := n0 k (fun x v2 h => kend x (fin v2 h)) a0 h
theorem gives {k : Nat} {a0 : GV} {v : GV} (e : run k a0 [] finN = some v) : NN fn.impl_RuneOk [a0] = some v := nω_of (by kernel_rfl) (((kfun_eq (nt := 10) (c := c0) (show PP.funcs[fn.impl_RuneOk]? = some Try.f224 by kernel_rfl) (by kernel_rfl) (by kernel_rfl) (fun x σ h => by cases x <;> kernel_rfl)).trans (n0_eq k _ [] _)).trans e)
end S.impl_RuneOk
namespace S.spec_RuneOk
noncomputable def c0 := bodyOf Try.f93
noncomputable def c1 := cR c0
noncomputable def c2 := cR c1
@[simp] def n2 {R : Type} (k : Nat) (G : KT1 R) (v2 : GV) (h : Heap) := G .ret v2 h
theorem n2_eq (G : KT1 R) : KC k 10 c2 σ h (Q1 G 2) = n2 k G (σ 2) h := by kernel_rfl
noncomputable def c3 := cL c1
noncomputable def o3 : Array Oper := cO c3
@[simp] def g3_2 {R : Type} (k : Nat) (G : KT1 R) (v5 v8 : GV) (h : Heap) := (kpick v5 v8 (.bool false)).bind fun v9 => G .nrm v9 h
theorem g3_2_eq (G : KT1 R) : kgroups PP cfg NN HH 10 o3 [(none, [6, 7])] σ h (fun σ h => G .nrm (σ 2) h) = W2 (g3_2 k G) 5 8 σ h := by kernel_rfl
@[simp] def g3_1 (G : KT1 R) (v0 v5 : GV) (h : Heap) := bif tr true v5 then (kN NN fn.spec_l1In [v0, (.int .i64 55296), (.int .i64 57343)] h).bind fun v7 => (kun .not v7).bind fun v8 => g3_2 k G v5 v8 h else g3_2 k G v5 .un h
theorem g3_1_eq (G : KT1 R) : kgroups PP cfg NN HH 10 o3 [(some (2, true), [3, 4, 5]), (none, [6, 7])] σ h (fun σ h => G .nrm (σ 2) h) = W2 (g3_1 k G) 0 5 σ h := (kgroups_cons (fun σ h => g3_2_eq k σ h G)).trans (by kernel_rfl)
@[simp] def g3_0 (G : KT1 R) (v0 : GV) (h : Heap) := (kN NN fn.spec_l1In [v0, (.int .i64 0), (.int .i64 1114111)] h).bind fun v4 => g3_1 k G v0 v4 h
theorem g3_0_eq (G : KT1 R) : kgroups PP cfg NN HH 10 o3 [(none, [0, 1, 2]), (some (2, true), [3, 4, 5]), (none, [6, 7])] σ h (fun σ h => G .nrm (σ 2) h) = g3_0 k G (σ 0) h := (kgroups_cons (fun σ h => g3_1_eq k σ h G)).trans (by kernel_rfl)
@[simp] def n3 (G : KT1 R) (v0 : GV) (h : Heap) := g3_0 k G v0 h
theorem n3_eq (G : KT1 R) : KC k 10 c3 σ h (Q1 G 2) = n3 k G (σ 0) h := (kregion_eq (id := 1) (draw := false) (ops := o3) (gs := [(none, [0, 1, 2]), (some (2, true), [3, 4, 5]), (none, [6, 7])]) (by kernel_rfl) (by kernel_rfl) (by kernel_rfl)).trans (g3_0_eq k σ h G)
@[simp] def n1 (G : KT1 R) (v0 : GV) (h : Heap) := n3 k (fun x v2 h => kx x (n2 k G v2 h) (G x v2 h)) v0 h
theorem n1_eq (G : KT1 R) : KC k 10 c1 σ h (Q1 G 2) = n1 k G (σ 0) h := (kseq (b := c2) rfl (fun σ h => n2_eq k σ h G)).trans (n3_eq k σ h (fun x v2 h => kx x (n2 k G v2 h) (G x v2 h)))
noncomputable def c4 := cL c0
@[simp] def n0 (G : KT1 R) (v0 : GV) (h : Heap) := n1 k G v0 h
theorem n0_eq (G : KT1 R) : KC k 10 c0 σ h (Q1 G 2) = n0 k G (σ 0) h := (kseq (a := c4) (b := c1) rfl (fun σ h => n1_eq k σ h G)).trans (by kernel_rfl)
def run {R : Type} (k : Nat) (a0 : GV) (h : Heap) (fin : GV → Heap → Option R) : Option R := n0 k (fun x v2 h => kend x (fin v2 h)) a0 h
theorem gives {k : Nat} {a0 : GV} {v : GV} (e : run k a0 [] finN = some v) : NN fn.spec_RuneOk [a0] = some v := nω_of (by kernel_rfl) (((kfun_eq (nt := 10) (c := c0) (show PP.funcs[fn.spec_RuneOk]? = some Try.f93 by kernel_rfl) (by kernel_rfl) (by kernel_rfl) (fun x σ h => by cases x <;> kernel_rfl)).trans (n0_eq k _ [] _)).trans e)
end S.spec_RuneOk
namespace S.impl_Width
noncomputable def c0 := bodyOf Try.f265
noncomputable def c1 := cR c0
noncomputable def c2 := cR c1
@[simp] def n2 {R : Type} (k : Nat) (G : KT1 R) (h : Heap) := G .ret (.int .i64 1) h
theorem n2_eq (G : KT1 R) : KC k 30 c2 σ h (Q1 G 2) = n2 k G h := by kernel_rfl
noncomputable def c3 := cL c1
noncomputable def c4 := cL c3
noncomputable def c5 := cR c4
noncomputable def c6 := cL c5
@[simp] def n6 {R : Type} (k : Nat) (G : KT1 R) (h : Heap) := G .ret (.int .i64 0) h
theorem n6_eq (G : KT1 R) : KC k 30 c6 σ h (Q1 G 2) = n6 k G h := by kernel_rfl
noncomputable def c7 := cR c5
noncomputable def c8 := cR c7
@[simp] def n8 {R : Type} (k : Nat) (G : KT1 R) (v2 v19 : GV) (h : Heap) := kcond v19 (G .ret (.int .i64 2) h) (G .nrm v2 h)
theorem n8_eq (G : KT1 R) : KC k 30 c8 σ h (Q1 G 2) = W2 (n8 k G) 2 19 σ h := by kernel_rfl
noncomputable def c9 := cL c7
noncomputable def o9 : Array Oper := cO c9
@[simp] def g9_4 {R : Type} (k : Nat) (G : KT2 R) (v2 v26 v28 : GV) (h : Heap) := (kpick v26 (.bool true) v28).bind fun v29 => G .nrm v2 v29 h
theorem g9_4_eq (G : KT2 R) : kgroups PP cfg NN HH 30 o9 [(none, [9, 10])] σ h (fun σ h => G .nrm (σ 2) (σ 19) h) = W3 (g9_4 k G) 2 26 28 σ h := by kernel_rfl
@[simp] def g9_3 (G : KT2 R) (v0 v2 v26 : GV) (h : Heap) := bif tr false v26 then (kN NN fn.impl_in [v0, (.int .i64 127744), (.int .i64 131071)] h).bind fun v28 => g9_4 k G v2 v26 v28 h else g9_4 k G v2 v26 .un h
theorem g9_3_eq (G : KT2 R) : kgroups PP cfg NN HH 30 o9 [(some (6, false), [7, 8]), (none, [9, 10])] σ h (fun σ h => G .nrm (σ 2) (σ 19) h) = W3 (g9_3 k G) 0 2 26 σ h := (kgroups_cons (fun σ h => g9_4_eq k σ h G)).trans (by kernel_rfl)
@[simp] def g9_2 (G : KT2 R) (v0 v2 v22 v24 : GV) (h : Heap) := (kpick v22 (.bool true) v24).bind fun v25 => g9_3 k G v0 v2 v25 h
theorem g9_2_eq (G : KT2 R) : kgroups PP cfg NN HH 30 o9 [(none, [5, 6]), (some (6, false), [7, 8]), (none, [9, 10])] σ h (fun σ h => G .nrm (σ 2) (σ 19) h) = W4 (g9_2 k G) 0 2 22 24 σ h := (kgroups_cons (fun σ h => g9_3_eq k σ h G)).trans (by kernel_rfl)
@[simp] def g9_1 (G : KT2 R) (v0 v2 v22 : GV) (h : Heap) := bif tr false v22 then (kN NN fn.impl_in [v0, (.int .i64 12288), (.int .i64 55295)] h).bind fun v24 => g9_2 k G v0 v2 v22 v24 h else g9_2 k G v0 v2 v22 .un h
theorem g9_1_eq (G : KT2 R) : kgroups PP cfg NN HH 30 o9 [(some (2, false), [3, 4]), (none, [5, 6]), (some (6, false), [7, 8]), (none, [9, 10])] σ h (fun σ h => G .nrm (σ 2) (σ 19) h) = W3 (g9_1 k G) 0 2 22 σ h := (kgroups_cons (fun σ h => g9_2_eq k σ h G)).trans (by kernel_rfl)
@[simp] def g9_0 (G : KT2 R) (v0 v2 : GV) (h : Heap) := (kN NN fn.impl_in [v0, (.int .i64 4352), (.int .i64 4447)] h).bind fun v21 => g9_1 k G v0 v2 v21 h
theorem g9_0_eq (G : KT2 R) : kgroups PP cfg NN HH 30 o9 [(none, [0, 1, 2]), (some (2, false), [3, 4]), (none, [5, 6]), (some (6, false), [7, 8]), (none, [9, 10])] σ h (fun σ h => G .nrm (σ 2) (σ 19) h) = W2 (g9_0 k G) 0 2 σ h := (kgroups_cons (fun σ h => g9_1_eq k σ h G)).trans (by kernel_rfl)
@[simp] def n9 (G : KT2 R) (v0 v2 : GV) (h : Heap) := g9_0 k G v0 v2 h
theorem n9_eq (G : KT2 R) : KC k 30 c9 σ h (Q2 G 2 19) = W2 (n9 k G) 0 2 σ h := (kregion_eq (id := 3) (draw := false) (ops := o9) (gs := [(none, [0, 1, 2]), (some (2, false), [3, 4]), (none, [5, 6]), (some (6, false), [7, 8]), (none, [9, 10])]) (by kernel_rfl) (by kernel_rfl) (by kernel_rfl)).trans (g9_0_eq k σ h G)
@[simp] def n7 (G : KT1 R) (v0 v2 : GV) (h : Heap) := n9 k (fun x v2 v19 h => kx x (n8 k G v2 v19 h) (G x v2 h)) v0 v2 h
theorem n7_eq (G : KT1 R) : KC k 30 c7 σ h (Q1 G 2) = W2 (n7 k G) 0 2 σ h := (kseq (b := c8) rfl (fun σ h => n8_eq k σ h G)).trans (n9_eq k σ h (fun x v2 v19 h => kx x (n8 k G v2 v19 h) (G x v2 h)))
@[simp] def n5 (G : KT1 R) (v0 v2 v3 : GV) (h : Heap) := kcond v3 (n6 k G h) (n7 k G v0 v2 h)
theorem n5_eq (G : KT1 R) : KC k 30 c5 σ h (Q1 G 2) = W3 (n5 k G) 0 2 3 σ h := (kcond_eq (a := c6) (b := c7) rfl (by rfl)).trans (congr (congrArg (kcond (σ 3)) (n6_eq k σ h G)) (n7_eq k σ h G))
noncomputable def c10 := cL c4
noncomputable def o10 : Array Oper := cO c10
@[simp] def g10_6 {R : Type} (k : Nat) (G : KT3 R) (v0 v2 v15 v17 : GV) (h : Heap) := (kpick v15 (.bool true) v17).bind fun v18 => G .nrm v0 v2 v18 h
theorem g10_6_eq (G : KT3 R) : kgroups PP cfg NN HH 30 o10 [(none, [14, 15])] σ h (fun σ h => G .nrm (σ 0) (σ 2) (σ 3) h) = W4 (g10_6 k G) 0 2 15 17 σ h := by kernel_rfl
@[simp] def g10_5 (G : KT3 R) (v0 v2 v15 : GV) (h : Heap) := bif tr false v15 then (kN NN fn.impl_in [v0, (.int .i64 768), (.int .i64 879)] h).bind fun v17 => g10_6 k G v0 v2 v15 v17 h else g10_6 k G v0 v2 v15 .un h
theorem g10_5_eq (G : KT3 R) : kgroups PP cfg NN HH 30 o10 [(some (11, false), [12, 13]), (none, [14, 15])] σ h (fun σ h => G .nrm (σ 0) (σ 2) (σ 3) h) = W3 (g10_5 k G) 0 2 15 σ h := (kgroups_cons (fun σ h => g10_6_eq k σ h G)).trans (by kernel_rfl)
@[simp] def g10_4 (G : KT3 R) (v0 v2 v11 v13 : GV) (h : Heap) := (kpick v11 (.bool true) v13).bind fun v14 => g10_5 k G v0 v2 v14 h
theorem g10_4_eq (G : KT3 R) : kgroups PP cfg NN HH 30 o10 [(none, [10, 11]), (some (11, false), [12, 13]), (none, [14, 15])] σ h (fun σ h => G .nrm (σ 0) (σ 2) (σ 3) h) = W4 (g10_4 k G) 0 2 11 13 σ h := (kgroups_cons (fun σ h => g10_5_eq k σ h G)).trans (by kernel_rfl)
@[simp] def g10_3 (G : KT3 R) (v0 v2 v11 : GV) (h : Heap) := bif tr false v11 then (kN NN fn.impl_in [v0, (.int .i64 127), (.int .i64 159)] h).bind fun v13 => g10_4 k G v0 v2 v11 v13 h else g10_4 k G v0 v2 v11 .un h
theorem g10_3_eq (G : KT3 R) : kgroups PP cfg NN HH 30 o10 [(some (7, false), [8, 9]), (none, [10, 11]), (some (11, false), [12, 13]), (none, [14, 15])] σ h (fun σ h => G .nrm (σ 0) (σ 2) (σ 3) h) = W3 (g10_3 k G) 0 2 11 σ h := (kgroups_cons (fun σ h => g10_4_eq k σ h G)).trans (by kernel_rfl)
@[simp] def g10_2 (G : KT3 R) (v0 v2 v7 v9 : GV) (h : Heap) := (kpick v7 (.bool true) v9).bind fun v10 => g10_3 k G v0 v2 v10 h
theorem g10_2_eq (G : KT3 R) : kgroups PP cfg NN HH 30 o10 [(none, [6, 7]), (some (7, false), [8, 9]), (none, [10, 11]), (some (11, false), [12, 13]), (none, [14, 15])] σ h (fun σ h => G .nrm (σ 0) (σ 2) (σ 3) h) = W4 (g10_2 k G) 0 2 7 9 σ h := (kgroups_cons (fun σ h => g10_3_eq k σ h G)).trans (by kernel_rfl)
@[simp] def g10_1 (G : KT3 R) (v0 v2 v7 : GV) (h : Heap) := bif tr false v7 then (kbin .lss v0 (.int .i64 32)).bind fun v9 => g10_2 k G v0 v2 v7 v9 h else g10_2 k G v0 v2 v7 .un h
theorem g10_1_eq (G : KT3 R) : kgroups PP cfg NN HH 30 o10 [(some (3, false), [4, 5]), (none, [6, 7]), (some (7, false), [8, 9]), (none, [10, 11]), (some (11, false), [12, 13]), (none, [14, 15])] σ h (fun σ h => G .nrm (σ 0) (σ 2) (σ 3) h) = W3 (g10_1 k G) 0 2 7 σ h := (kgroups_cons (fun σ h => g10_2_eq k σ h G)).trans (by kernel_rfl)
@[simp] def g10_0 (G : KT3 R) (v0 v2 : GV) (h : Heap) := (kN NN fn.impl_RuneOk [v0] h).bind fun v5 => (kun .not v5).bind fun v6 => g10_1 k G v0 v2 v6 h
theorem g10_0_eq (G : KT3 R) : kgroups PP cfg NN HH 30 o10 [(none, [0, 1, 2, 3]), (some (3, false), [4, 5]), (none, [6, 7]), (some (7, false), [8, 9]), (none, [10, 11]), (some (11, false), [12, 13]), (none, [14, 15])] σ h (fun σ h => G .nrm (σ 0) (σ 2) (σ 3) h) = W2 (g10_0 k G) 0 2 σ h := (kgroups_cons (fun σ h => g10_1_eq k σ h G)).trans (by kernel_rfl)
@[simp] def n10 (G : KT3 R) (v0 v2 : GV) (h : Heap) := g10_0 k G v0 v2 h
theorem n10_eq (G : KT3 R) : KC k 30 c10 σ h (Q3 G 0 2 3) = W2 (n10 k G) 0 2 σ h := (kregion_eq (id := 1) (draw := false) (ops := o10) (gs := [(none, [0, 1, 2, 3]), (some (3, false), [4, 5]), (none, [6, 7]), (some (7, false), [8, 9]), (none, [10, 11]), (some (11, false), [12, 13]), (none, [14, 15])]) (by kernel_rfl) (by kernel_rfl) (by kernel_rfl)).trans (g10_0_eq k σ h G)
@[simp] def n4 (G : KT1 R) (v0 v2 : GV) (h : Heap) := n10 k (fun x v0 v2 v3 h => kx x (n5 k G v0 v2 v3 h) (G x v2 h)) v0 v2 h
theorem n4_eq (G : KT1 R) : KC k 30 c4 σ h (Q1 G 2) = W2 (n4 k G) 0 2 σ h := (kseq (b := c5) rfl (fun σ h => n5_eq k σ h G)).trans (n10_eq k σ h (fun x v0 v2 v3 h => kx x (n5 k G v0 v2 v3 h) (G x v2 h)))
@[simp] def n3 (G : KT1 R) (v0 v2 : GV) (h : Heap) := n4 k (fun x v2 h => kb 0 x fun x => G x v2 h) v0 v2 h
theorem n3_eq (G : KT1 R) : KC k 30 c3 σ h (Q1 G 2) = W2 (n3 k G) 0 2 σ h := (kblock_eq (a := c4) rfl).trans (n4_eq k σ h (fun x v2 h => kb 0 x fun x => G x v2 h))
@[simp] def n1 (G : KT1 R) (v0 v2 : GV) (h : Heap) := n3 k (fun x v2 h => kx x (n2 k G h) (G x v2 h)) v0 v2 h
theorem n1_eq (G : KT1 R) : KC k 30 c1 σ h (Q1 G 2) = W2 (n1 k G) 0 2 σ h := (kseq (b := c2) rfl (fun σ h => n2_eq k σ h G)).trans (n3_eq k σ h (fun x v2 h => kx x (n2 k G h) (G x v2 h)))
noncomputable def c11 := cL c0
@[simp] def n0 (G : KT1 R) (v0 : GV) (h : Heap) := n1 k G v0 (.int .i64 0) h
theorem n0_eq (G : KT1 R) : KC k 30 c0 σ h (Q1 G 2) = n0 k G (σ 0) h := (kseq (a := c11) (b := c1) rfl (fun σ h => n1_eq k σ h G)).trans (by kernel_rfl)
def run {R : Type} (k : Nat) (a0 : GV) (h : Heap) (fin : GV → Heap → Option R) : Option R := n0 k (fun x v2 h => kend x (fin v2 h)) a0 h
theorem gives {k : Nat} {a0 : GV} {v : GV} (e : run k a0 [] finN = some v) : NN fn.impl_Width [a0] = some v := nω_of (by kernel_rfl) (((kfun_eq (nt := 30) (c := c0) (show PP.funcs[fn.impl_Width]? = some Try.f265 by kernel_rfl) (by kernel_rfl) (by kernel_rfl) (fun x σ h => by cases x <;> kernel_rfl)).trans (n0_eq k _ [] _)).trans e)
end S.impl_Width
namespace S.spec_Width
noncomputable def c0 := bodyOf Try.f222
noncomputable def c1 := cR c0
noncomputable def c2 := cR c1
@[simp] def n2 {R : Type} (k : Nat) (G : KT1 R) (h : Heap) := G .ret (.int .i64 1) h
theorem n2_eq (G : KT1 R) : KC k 30 c2 σ h (Q1 G 2) = n2 k G h := by kernel_rfl
noncomputable def c3 := cL c1
noncomputable def c4 := cL c3
noncomputable def c5 := cR c4
noncomputable def c6 := cL c5
@[simp] def n6 {R : Type} (k : Nat) (G : KT1 R) (h : Heap) := G .ret (.int .i64 0) h
theorem n6_eq (G : KT1 R) : KC k 30 c6 σ h (Q1 G 2) = n6 k G h := by kernel_rfl
noncomputable def c7 := cR c5
noncomputable def c8 := cR c7
@[simp] def n8 {R : Type} (k : Nat) (G : KT1 R) (v2 v19 : GV) (h : Heap) := kcond v19 (G .ret (.int .i64 2) h) (G .nrm v2 h)
theorem n8_eq (G : KT1 R) : KC k 30 c8 σ h (Q1 G 2) = W2 (n8 k G) 2 19 σ h := by kernel_rfl
noncomputable def c9 := cL c7
noncomputable def o9 : Array Oper := cO c9
@[simp] def g9_4 {R : Type} (k : Nat) (G : KT2 R) (v2 v26 v28 : GV) (h : Heap) := (kpick v26 (.bool true) v28).bind fun v29 => G .nrm v2 v29 h
theorem g9_4_eq (G : KT2 R) : kgroups PP cfg NN HH 30 o9 [(none, [9, 10])] σ h (fun σ h => G .nrm (σ 2) (σ 19) h) = W3 (g9_4 k G) 2 26 28 σ h := by kernel_rfl
@[simp] def g9_3 (G : KT2 R) (v0 v2 v26 : GV) (h : Heap) := bif tr false v26 then (kN NN fn.spec_l1In [v0, (.int .i64 127744), (.int .i64 131071)] h).bind fun v28 => g9_4 k G v2 v26 v28 h else g9_4 k G v2 v26 .un h
theorem g9_3_eq (G : KT2 R) : kgroups PP cfg NN HH 30 o9 [(some (6, false), [7, 8]), (none, [9, 10])] σ h (fun σ h => G .nrm (σ 2) (σ 19) h) = W3 (g9_3 k G) 0 2 26 σ h := (kgroups_cons (fun σ h => g9_4_eq k σ h G)).trans (by kernel_rfl)
@[simp] def g9_2 (G : KT2 R) (v0 v2 v22 v24 : GV) (h : Heap) := (kpick v22 (.bool true) v24).bind fun v25 => g9_3 k G v0 v2 v25 h
theorem g9_2_eq (G : KT2 R) : kgroups PP cfg NN HH 30 o9 [(none, [5, 6]), (some (6, false), [7, 8]), (none, [9, 10])] σ h (fun σ h => G .nrm (σ 2) (σ 19) h) = W4 (g9_2 k G) 0 2 22 24 σ h := (kgroups_cons (fun σ h => g9_3_eq k σ h G)).trans (by kernel_rfl)
@[simp] def g9_1 (G : KT2 R) (v0 v2 v22 : GV) (h : Heap) := bif tr false v22 then (kN NN fn.spec_l1In [v0, (.int .i64 12288), (.int .i64 55295)] h).bind fun v24 => g9_2 k G v0 v2 v22 v24 h else g9_2 k G v0 v2 v22 .un h
theorem g9_1_eq (G : KT2 R) : kgroups PP cfg NN HH 30 o9 [(some (2, false), [3, 4]), (none, [5, 6]), (some (6, false), [7, 8]), (none, [9, 10])] σ h (fun σ h => G .nrm (σ 2) (σ 19) h) = W3 (g9_1 k G) 0 2 22 σ h := (kgroups_cons (fun σ h => g9_2_eq k σ h G)).trans (by kernel_rfl)
@[simp] def g9_0 (G : KT2 R) (v0 v2 : GV) (h : Heap) := (kN NN fn.spec_l1In [v0, (.int .i64 4352), (.int .i64 4447)] h).bind fun v21 => g9_1 k G v0 v2 v21 h
theorem g9_0_eq (G : KT2 R) : kgroups PP cfg NN HH 30 o9 [(none, [0, 1, 2]), (some (2, false), [3, 4]), (none, [5, 6]), (some (6, false), [7, 8]), (none, [9, 10])] σ h (fun σ h => G .nrm (σ 2) (σ 19) h) = W2 (g9_0 k G) 0 2 σ h := (kgroups_cons (fun σ h => g9_1_eq k σ h G)).trans (by kernel_rfl)
@[simp] def n9 (G : KT2 R) (v0 v2 : GV) (h : Heap) := g9_0 k G v0 v2 h
theorem n9_eq (G : KT2 R) : KC k 30 c9 σ h (Q2 G 2 19) = W2 (n9 k G) 0 2 σ h := (kregion_eq (id := 3) (draw := false) (ops := o9) (gs := [(none, [0, 1, 2]), (some (2, false), [3, 4]), (none, [5, 6]), (some (6, false), [7, 8]), (none, [9, 10])]) (by kernel_rfl) (by kernel_rfl) (by kernel_rfl)).trans (g9_0_eq k σ h G)
@[simp] def n7 (G : KT1 R) (v0 v2 : GV) (h : Heap) := n9 k (fun x v2 v19 h => kx x (n8 k G v2 v19 h) (G x v2 h)) v0 v2 h
theorem n7_eq (G : KT1 R) : KC k 30 c7 σ h (Q1 G 2) = W2 (n7 k G) 0 2 σ h := (kseq (b := c8) rfl (fun σ h => n8_eq k σ h G)).trans (n9_eq k σ h (fun x v2 v19 h => kx x (n8 k G v2 v19 h) (G x v2 h)))
@[simp] def n5 (G : KT1 R) (v0 v2 v3 : GV) (h : Heap) := kcond v3 (n6 k G h) (n7 k G v0 v2 h)
theorem n5_eq (G : KT1 R) : KC k 30 c5 σ h (Q1 G 2) = W3 (n5 k G) 0 2 3 σ h := (kcond_eq (a := c6) (b := c7) rfl (by rfl)).trans (congr (congrArg (kcond (σ 3)) (n6_eq k σ h G)) (n7_eq k σ h G))
noncomputable def c10 := cL c4
noncomputable def o10 : Array Oper := cO c10
@[simp] def g10_6 {R : Type} (k : Nat) (G : KT3 R) (v0 v2 v15 v17 : GV) (h : Heap) := (kpick v15 (.bool true) v17).bind fun v18 => G .nrm v0 v2 v18 h
theorem g10_6_eq (G : KT3 R) : kgroups PP cfg NN HH 30 o10 [(none, [14, 15])] σ h (fun σ h => G .nrm (σ 0) (σ 2) (σ 3) h) = W4 (g10_6 k G) 0 2 15 17 σ h := by kernel_rfl
@[simp] def g10_5 (G : KT3 R) (v0 v2 v15 : GV) (h : Heap) := bif tr false v15 then (kN NN fn.spec_l1In [v0, (.int .i64 768), (.int .i64 879)] h).bind fun v17 => g10_6 k G v0 v2 v15 v17 h else g10_6 k G v0 v2 v15 .un h
theorem g10_5_eq (G : KT3 R) : kgroups PP cfg NN HH 30 o10 [(some (11, false), [12, 13]), (none, [14, 15])] σ h (fun σ h => G .nrm (σ 0) (σ 2) (σ 3) h) = W3 (g10_5 k G) 0 2 15 σ h := (kgroups_cons (fun σ h => g10_6_eq k σ h G)).trans (by kernel_rfl)
@[simp] def g10_4 (G : KT3 R) (v0 v2 v11 v13 : GV) (h : Heap) := (kpick v11 (.bool true) v13).bind fun v14 => g10_5 k G v0 v2 v14 h
theorem g10_4_eq (G : KT3 R) : kgroups PP cfg NN HH 30 o10 [(none, [10, 11]), (some (11, false), [12, 13]), (none, [14, 15])] σ h (fun σ h => G .nrm (σ 0) (σ 2) (σ 3) h) = W4 (g10_4 k G) 0 2 11 13 σ h := (kgroups_cons (fun σ h => g10_5_eq k σ h G)).trans (by kernel_rfl)
@[simp] def g10_3 (G : KT3 R) (v0 v2 v11 : GV) (h : Heap) := bif tr false v11 then (kN NN fn.spec_l1In [v0, (.int .i64 127), (.int .i64 159)] h).bind fun v13 => g10_4 k G v0 v2 v11 v13 h else g10_4 k G v0 v2 v11 .un h
theorem g10_3_eq (G : KT3 R) : kgroups PP cfg NN HH 30 o10 [(some (7, false), [8, 9]), (none, [10, 11]), (some (11, false), [12, 13]), (none, [14, 15])] σ h (fun σ h => G .nrm (σ 0) (σ 2) (σ 3) h) = W3 (g10_3 k G) 0 2 11 σ h := (kgroups_cons (fun σ h => g10_4_eq k σ h G)).trans (by kernel_rfl)
@[simp] def g10_2 (G : KT3 R) (v0 v2 v7 v9 : GV) (h : Heap) := (kpick v7 (.bool true) v9).bind fun v10 => g10_3 k G v0 v2 v10 h
theorem g10_2_eq (G : KT3 R) : kgroups PP cfg NN HH 30 o10 [(none, [6, 7]), (some (7, false), [8, 9]), (none, [10, 11]), (some (11, false), [12, 13]), (none, [14, 15])] σ h (fun σ h => G .nrm (σ 0) (σ 2) (σ 3) h) = W4 (g10_2 k G) 0 2 7 9 σ h := (kgroups_cons (fun σ h => g10_3_eq k σ h G)).trans (by kernel_rfl)
@[simp] def g10_1 (G : KT3 R) (v0 v2 v7 : GV) (h : Heap) := bif tr false v7 then (kbin .lss v0 (.int .i64 32)).bind fun v9 => g10_2 k G v0 v2 v7 v9 h else g10_2 k G v0 v2 v7 .un h
theorem g10_1_eq (G : KT3 R) : kgroups PP cfg NN HH 30 o10 [(some (3, false), [4, 5]), (none, [6, 7]), (some (7, false), [8, 9]), (none, [10, 11]), (some (11, false), [12, 13]), (none, [14, 15])] σ h (fun σ h => G .nrm (σ 0) (σ 2) (σ 3) h) = W3 (g10_1 k G) 0 2 7 σ h := (kgroups_cons (fun σ h => g10_2_eq k σ h G)).trans (by kernel_rfl)
@[simp] def g10_0 (G : KT3 R) (v0 v2 : GV) (h : Heap) := (kN NN fn.spec_RuneOk [v0] h).bind fun v5 => (kun .not v5).bind fun v6 => g10_1 k G v0 v2 v6 h
theorem g10_0_eq (G : KT3 R) : kgroups PP cfg NN HH 30 o10 [(none, [0, 1, 2, 3]), (some (3, false), [4, 5]), (none, [6, 7]), (some (7, false), [8, 9]), (none, [10, 11]), (some (11, false), [12, 13]), (none, [14, 15])] σ h (fun σ h => G .nrm (σ 0) (σ 2) (σ 3) h) = W2 (g10_0 k G) 0 2 σ h := (kgroups_cons (fun σ h => g10_1_eq k σ h G)).trans (by kernel_rfl)
@[simp] def n10 (G : KT3 R) (v0 v2 : GV) (h : Heap) := g10_0 k G v0 v2 h
theorem n10_eq (G : KT3 R) : KC k 30 c10 σ h (Q3 G 0 2 3) = W2 (n10 k G) 0 2 σ h := (kregion_eq (id := 1) (draw := false) (ops := o10) (gs := [(none, [0, 1, 2, 3]), (some (3, false), [4, 5]), (none, [6, 7]), (some (7, false), [8, 9]), (none, [10, 11]), (some (11, false), [12, 13]), (none, [14, 15])]) (by kernel_rfl) (by kernel_rfl) (by kernel_rfl)).trans (g10_0_eq k σ h G)
@[simp] def n4 (G : KT1 R) (v0 v2 : GV) (h : Heap) := n10 k (fun x v0 v2 v3 h => kx x (n5 k G v0 v2 v3 h) (G x v2 h)) v0 v2 h
theorem n4_eq (G : KT1 R) : KC k 30 c4 σ h (Q1 G 2) = W2 (n4 k G) 0 2 σ h := (kseq (b := c5) rfl (fun σ h => n5_eq k σ h G)).trans (n10_eq k σ h (fun x v0 v2 v3 h => kx x (n5 k G v0 v2 v3 h) (G x v2 h)))
@[simp] def n3 (G : KT1 R) (v0 v2 : GV) (h : Heap) := n4 k (fun x v2 h => kb 0 x fun x => G x v2 h) v0 v2 h
theorem n3_eq (G : KT1 R) : KC k 30 c3 σ h (Q1 G 2) = W2 (n3 k G) 0 2 σ h := (kblock_eq (a := c4) rfl).trans (n4_eq k σ h (fun x v2 h => kb 0 x fun x => G x v2 h))
@[simp] def n1 (G : KT1 R) (v0 v2 : GV) (h : Heap) := n3 k (fun x v2 h => kx x (n2 k G h) (G x v2 h)) v0 v2 h
theorem n1_eq (G : KT1 R) : KC k 30 c1 σ h (Q1 G 2) = W2 (n1 k G) 0 2 σ h := (kseq (b := c2) rfl (fun σ h => n2_eq k σ h G)).trans (n3_eq k σ h (fun x v2 h => kx x (n2 k G h) (G x v2 h)))
noncomputable def c11 := cL c0
@[simp] def n0 (G : KT1 R) (v0 : GV) (h : Heap) := n1 k G v0 (.int .i64 0) h
theorem n0_eq (G : KT1 R) : KC k 30 c0 σ h (Q1 G 2) = n0 k G (σ 0) h := (kseq (a := c11) (b := c1) rfl (fun σ h => n1_eq k σ h G)).trans (by kernel_rfl)
def run {R : Type} (k : Nat) (a0 : GV) (h : Heap) (fin : GV → Heap → Option R) : Option R := n0 k (fun x v2 h => kend x (fin v2 h)) a0 h
theorem gives {k : Nat} {a0 : GV} {v : GV} (e : run k a0 [] finN = some v) : NN fn.spec_Width [a0] = some v := nω_of (by kernel_rfl) (((kfun_eq (nt := 30) (c := c0) (show PP.funcs[fn.spec_Width]? = some Try.f222 by kernel_rfl) (by kernel_rfl) (by kernel_rfl) (fun x σ h => by cases x <;> kernel_rfl)).trans (n0_eq k _ [] _)).trans e)
end S.spec_Width
namespace S.spec_l1Min
noncomputable def c0 := bodyOf Try.f208
@[simp] def n0 {R : Type} (k : Nat) (G : KT1 R) (v0 v1 : GV) (h : Heap) := (kbin .lss v0 v1).bind fun v7 => kcond v7 (G .ret v0 h) (G .ret v1 h)
theorem n0_eq (G : KT1 R) : KC k 10 c0 σ h (Q1 G 4) = W2 (n0 k G) 0 1 σ h := by kernel_rfl
def run {R : Type} (k : Nat) (a0 a1 : GV) (h : Heap) (fin : GV → Heap → Option R) : Option R := n0 k (fun x v4 h => kend x (fin v4 h)) a0 a1 h
theorem gives {k : Nat} {a0 a1 : GV} {v : GV} (e : run k a0 a1 [] finN = some v) : NN fn.spec_l1Min [a0, a1] = some v := nω_of (by kernel_rfl) (((kfun_eq (nt := 10) (c := c0) (show PP.funcs[fn.spec_l1Min]? = some Try.f208 by kernel_rfl) (by kernel_rfl) (by kernel_rfl) (fun x σ h => by cases x <;> kernel_rfl)).trans (n0_eq k _ [] _)).trans e)
end S.spec_l1Min
end
end Go.Proofs.Ytlbnioapepelnaa.G

namespace Go.Proofs.Ytlbnioapepelnaa.G
open Go.RowKit
noncomputable section
variable {R : Type} (k : Nat)
/-! laws_szParser -/
/-! laws_toParser -/
/-! laws_eqParser -/
/-! laws_eqActionS -/
/-! laws_markParser -/
/-! laws_markActionS -/
/-! laws_heldParser -/
/-! laws_heldActionS -/
/-! laws_toInt64S -/
/-! laws_eqInt64S -/
/-! laws_markInt64S -/
/-! laws_szInt64S -/
/-! laws_heldInt64S -/
/-! laws_eqAction -/
end
end Go.Proofs.Ytlbnioapepelnaa.G
