/- What these functions do, told for open values, out of the machine with continuations. Printed by a program of this session. -/
import Derived.Test.YtklhdbkaejbajaaDoorSN
import Derived.KernelRfl
namespace Go.Proofs.YtklhdbkaejbajaaDoor.G
open Go.RowKit
set_option linter.unusedVariables false
set_option maxRecDepth 100000
noncomputable section
variable {R : Type} (k : Nat)
/-! strings_TrimPrefix -/
namespace S.strings_TrimPrefix
noncomputable def c0 : Code := bodyOf Tryd.f149
@[simp] def n0 {R : Type} (k : Nat) (G : KT1 R) (v0 v1 : GV) (h : Heap) : Option R := (kN NN fn.internal_stringslite_TrimPrefix [v0, v1] h).bind fun v7 => G .ret v7 h
theorem n0_eq (G : KT1 R) (σ : GS) (h : Heap) : KC k 8 c0 σ h (fun x σ h => G x (σ 4) h) = n0 k G (σ 0) (σ 1) h := by kernel_rfl
def run {R : Type} (k : Nat) (a0 : GV) (a1 : GV) (h : Heap) (fin : GV → Heap → Option R) : Option R := n0 k (fun x v4 h => kend x (fin v4 h)) a0 a1 h
theorem run_eq {R : Type} (k : Nat) (a0 : GV) (a1 : GV) (h : Heap) (fin : GV → Heap → Option R) : kfun PP cfg NN HH k fn.strings_TrimPrefix [a0, a1] h fin = run k a0 a1 h fin := (kfun_eq (nt := 8) (c := c0) (show PP.funcs[fn.strings_TrimPrefix]? = some Tryd.f149 by kernel_rfl) (by kernel_rfl) (by kernel_rfl) (fun x σ h => by cases x <;> kernel_rfl)).trans (n0_eq k (fun x v4 h => kend x (fin v4 h)) _ h)
theorem gives {k : Nat} {a0 : GV} {a1 : GV} {v : GV} (e : run k a0 a1 [] finN = some v) : NN fn.strings_TrimPrefix [a0, a1] = some v := nω_of (by kernel_rfl) ((run_eq k a0 a1 [] finN).trans e)
end S.strings_TrimPrefix
/-! internal_stringslite_TrimPrefix -/
namespace S.internal_stringslite_TrimPrefix
noncomputable def c0 : Code := bodyOf Tryd.f191
@[simp] def n0 {R : Type} (k : Nat) (G : KT1 R) (v0 v1 : GV) (h : Heap) : Option R := (kN NN fn.internal_stringslite_HasPrefix [v0, v1] h).bind fun v7 => kcond v7 ((klenS v1).bind fun v10 => (kslS v0 (some v10) none none).bind fun v11 => G .ret v11 h) (G .ret v0 h)
theorem n0_eq (G : KT1 R) (σ : GS) (h : Heap) : KC k 13 c0 σ h (fun x σ h => G x (σ 4) h) = n0 k G (σ 0) (σ 1) h := by kernel_rfl
def run {R : Type} (k : Nat) (a0 : GV) (a1 : GV) (h : Heap) (fin : GV → Heap → Option R) : Option R := n0 k (fun x v4 h => kend x (fin v4 h)) a0 a1 h
theorem run_eq {R : Type} (k : Nat) (a0 : GV) (a1 : GV) (h : Heap) (fin : GV → Heap → Option R) : kfun PP cfg NN HH k fn.internal_stringslite_TrimPrefix [a0, a1] h fin = run k a0 a1 h fin := (kfun_eq (nt := 13) (c := c0) (show PP.funcs[fn.internal_stringslite_TrimPrefix]? = some Tryd.f191 by kernel_rfl) (by kernel_rfl) (by kernel_rfl) (fun x σ h => by cases x <;> kernel_rfl)).trans (n0_eq k (fun x v4 h => kend x (fin v4 h)) _ h)
theorem gives {k : Nat} {a0 : GV} {a1 : GV} {v : GV} (e : run k a0 a1 [] finN = some v) : NN fn.internal_stringslite_TrimPrefix [a0, a1] = some v := nω_of (by kernel_rfl) ((run_eq k a0 a1 [] finN).trans e)
end S.internal_stringslite_TrimPrefix
/-! internal_stringslite_HasPrefix -/
namespace S.internal_stringslite_HasPrefix
noncomputable def c0 : Code := bodyOf Tryd.f186
noncomputable def c1 : Code := cR c0
noncomputable def c2 : Code := cR c1
@[simp] def n2 {R : Type} (k : Nat) (G : KT1 R) (v4 : GV) (h : Heap) : Option R := G .ret v4 h
theorem n2_eq (G : KT1 R) (σ : GS) (h : Heap) : KC k 18 c2 σ h (fun x σ h => G x (σ 4) h) = n2 k G (σ 4) h := by kernel_rfl
noncomputable def c3 : Code := cL c1
noncomputable def o3 : Array Oper := cO c3
@[simp] def g3_2 {R : Type} (k : Nat) (G : KT1 R) (v10 v16 : GV) (h : Heap) : Option R := (kpick v10 v16 (.bool false)).bind fun v17 => G .nrm v17 h
theorem g3_2_eq (G : KT1 R) (σ : GS) (h : Heap) : kgroups PP cfg NN HH 18 o3 [(none, [12, 13])] σ h (fun σ h => G .nrm (σ 4) h) = g3_2 k G (σ 10) (σ 16) h := by kernel_rfl
@[simp] def g3_1 (G : KT1 R) (v0 v1 v10 : GV) (h : Heap) : Option R := bif tr true v10 then (klenS v1).bind fun v13 => (kslS v0 none (some v13) none).bind fun v14 => (kbin .eql v14 v1).bind fun v16 => g3_2 k G v10 v16 h else g3_2 k G v10 .un h
theorem g3_1_eq (G : KT1 R) (σ : GS) (h : Heap) : kgroups PP cfg NN HH 18 o3 [(some (5, true), [6, 7, 8, 9, 10, 11]), (none, [12, 13])] σ h (fun σ h => G .nrm (σ 4) h) = g3_1 k G (σ 0) (σ 1) (σ 10) h := (kgroups_cons (fun σ h => g3_2_eq k G σ h)).trans (by kernel_rfl)
@[simp] def g3_0 (G : KT1 R) (v0 v1 : GV) (h : Heap) : Option R := (klenS v0).bind fun v6 => (klenS v1).bind fun v8 => (kbin .geq v6 v8).bind fun v9 => g3_1 k G v0 v1 v9 h
theorem g3_0_eq (G : KT1 R) (σ : GS) (h : Heap) : kgroups PP cfg NN HH 18 o3 [(none, [0, 1, 2, 3, 4, 5]), (some (5, true), [6, 7, 8, 9, 10, 11]), (none, [12, 13])] σ h (fun σ h => G .nrm (σ 4) h) = g3_0 k G (σ 0) (σ 1) h := (kgroups_cons (fun σ h => g3_1_eq k G σ h)).trans (by kernel_rfl)
@[simp] def n3 (G : KT1 R) (v0 v1 : GV) (h : Heap) : Option R := g3_0 k G v0 v1 h
theorem n3_eq (G : KT1 R) (σ : GS) (h : Heap) : KC k 18 c3 σ h (fun x σ h => G x (σ 4) h) = n3 k G (σ 0) (σ 1) h := (kregion_eq (id := 1) (draw := false) (ops := o3) (gs := [(none, [0, 1, 2, 3, 4, 5]), (some (5, true), [6, 7, 8, 9, 10, 11]), (none, [12, 13])]) (by kernel_rfl) (by kernel_rfl) (by kernel_rfl)).trans (g3_0_eq k G σ h)
@[simp] def n1 (G : KT1 R) (v0 v1 : GV) (h : Heap) : Option R := n3 k (fun x v4 h => kx x (n2 k G v4 h) (G x v4 h)) v0 v1 h
theorem n1_eq (G : KT1 R) (σ : GS) (h : Heap) : KC k 18 c1 σ h (fun x σ h => G x (σ 4) h) = n1 k G (σ 0) (σ 1) h := (kseq (b := c2) rfl (fun σ h => n2_eq k G σ h)).trans (n3_eq k (fun x v4 h => kx x (n2 k G v4 h) (G x v4 h)) σ h)
noncomputable def c4 : Code := cL c0
@[simp] def n0 (G : KT1 R) (v0 v1 : GV) (h : Heap) : Option R := n1 k G v0 v1 h
theorem n0_eq (G : KT1 R) (σ : GS) (h : Heap) : KC k 18 c0 σ h (fun x σ h => G x (σ 4) h) = n0 k G (σ 0) (σ 1) h := (kseq (a := c4) (b := c1) rfl (fun σ h => n1_eq k G σ h)).trans (by kernel_rfl)
def run {R : Type} (k : Nat) (a0 : GV) (a1 : GV) (h : Heap) (fin : GV → Heap → Option R) : Option R := n0 k (fun x v4 h => kend x (fin v4 h)) a0 a1 h
theorem run_eq {R : Type} (k : Nat) (a0 : GV) (a1 : GV) (h : Heap) (fin : GV → Heap → Option R) : kfun PP cfg NN HH k fn.internal_stringslite_HasPrefix [a0, a1] h fin = run k a0 a1 h fin := (kfun_eq (nt := 18) (c := c0) (show PP.funcs[fn.internal_stringslite_HasPrefix]? = some Tryd.f186 by kernel_rfl) (by kernel_rfl) (by kernel_rfl) (fun x σ h => by cases x <;> kernel_rfl)).trans (n0_eq k (fun x v4 h => kend x (fin v4 h)) _ h)
theorem gives {k : Nat} {a0 : GV} {a1 : GV} {v : GV} (e : run k a0 a1 [] finN = some v) : NN fn.internal_stringslite_HasPrefix [a0, a1] = some v := nω_of (by kernel_rfl) ((run_eq k a0 a1 [] finN).trans e)
end S.internal_stringslite_HasPrefix
/-! strings_HasPrefix -/
namespace S.strings_HasPrefix
noncomputable def c0 : Code := bodyOf Tryd.f146
@[simp] def n0 {R : Type} (k : Nat) (G : KT1 R) (v0 v1 : GV) (h : Heap) : Option R := (kN NN fn.internal_stringslite_HasPrefix [v0, v1] h).bind fun v7 => G .ret v7 h
theorem n0_eq (G : KT1 R) (σ : GS) (h : Heap) : KC k 8 c0 σ h (fun x σ h => G x (σ 4) h) = n0 k G (σ 0) (σ 1) h := by kernel_rfl
def run {R : Type} (k : Nat) (a0 : GV) (a1 : GV) (h : Heap) (fin : GV → Heap → Option R) : Option R := n0 k (fun x v4 h => kend x (fin v4 h)) a0 a1 h
theorem run_eq {R : Type} (k : Nat) (a0 : GV) (a1 : GV) (h : Heap) (fin : GV → Heap → Option R) : kfun PP cfg NN HH k fn.strings_HasPrefix [a0, a1] h fin = run k a0 a1 h fin := (kfun_eq (nt := 8) (c := c0) (show PP.funcs[fn.strings_HasPrefix]? = some Tryd.f146 by kernel_rfl) (by kernel_rfl) (by kernel_rfl) (fun x σ h => by cases x <;> kernel_rfl)).trans (n0_eq k (fun x v4 h => kend x (fin v4 h)) _ h)
theorem gives {k : Nat} {a0 : GV} {a1 : GV} {v : GV} (e : run k a0 a1 [] finN = some v) : NN fn.strings_HasPrefix [a0, a1] = some v := nω_of (by kernel_rfl) ((run_eq k a0 a1 [] finN).trans e)
end S.strings_HasPrefix
/-! impl_numberOf -/
namespace S.impl_numberOf
noncomputable def c0 : Code := bodyOf Tryd.f87
noncomputable def c1 : Code := cR c0
noncomputable def c2 : Code := cR c1
noncomputable def c3 : Code := cR c2
@[simp] def n3 {R : Type} (k : Nat) (G : KT2 R) (v2 v3 : GV) (h : Heap) : Option R := G .ret v2 v3 h
theorem n3_eq (G : KT2 R) (σ : GS) (h : Heap) : KC k 26 c3 σ h (fun x σ h => G x (σ 2) (σ 3) h) = n3 k G (σ 2) (σ 3) h := by kernel_rfl
noncomputable def c4 : Code := cL c2
noncomputable def o4 : Array Oper := cO c4
@[simp] def g4_4 {R : Type} (k : Nat) (G : KT2 R) (v11 v20 v24 : GV) (h : Heap) : Option R := (kpick v20 v24 (.bool false)).bind fun v25 => G .nrm v11 v25 h
theorem g4_4_eq (G : KT2 R) (σ : GS) (h : Heap) : kgroups PP cfg NN HH 26 o4 [(none, [14, 15, 16])] σ h (fun σ h => G .nrm (σ 2) (σ 3) h) = g4_4 k G (σ 11) (σ 20) (σ 24) h := by kernel_rfl
@[simp] def g4_3 (G : KT2 R) (v0 v11 v20 : GV) (h : Heap) : Option R := bif tr true v20 then (kN NN fn.strings_TrimPrefix [v0, (.str { data := #[45] })] h).bind fun v22 => (klenS v22).bind fun v23 => (kbin .leq v23 (.int .i64 9)).bind fun v24 => g4_4 k G v11 v20 v24 h else g4_4 k G v11 v20 .un h
theorem g4_3_eq (G : KT2 R) (σ : GS) (h : Heap) : kgroups PP cfg NN HH 26 o4 [(some (9, true), [10, 11, 12, 13]), (none, [14, 15, 16])] σ h (fun σ h => G .nrm (σ 2) (σ 3) h) = g4_3 k G (σ 0) (σ 11) (σ 20) h := (kgroups_cons (fun σ h => g4_4_eq k G σ h)).trans (by kernel_rfl)
@[simp] def g4_2 (G : KT2 R) (v0 v11 v14 v18 : GV) (h : Heap) : Option R := (kpick v14 v18 (.bool false)).bind fun v19 => g4_3 k G v0 v11 v19 h
theorem g4_2_eq (G : KT2 R) (σ : GS) (h : Heap) : kgroups PP cfg NN HH 26 o4 [(none, [8, 9]), (some (9, true), [10, 11, 12, 13]), (none, [14, 15, 16])] σ h (fun σ h => G .nrm (σ 2) (σ 3) h) = g4_2 k G (σ 0) (σ 11) (σ 14) (σ 18) h := (kgroups_cons (fun σ h => g4_3_eq k G σ h)).trans (by kernel_rfl)
@[simp] def g4_1 (G : KT2 R) (v0 v4 v11 v14 : GV) (h : Heap) : Option R := bif tr true v14 then (kN NN fn.impl_decimal [v4] h).bind fun v16 => (kbin .eql v16 v0).bind fun v18 => g4_2 k G v0 v11 v14 v18 h else g4_2 k G v0 v11 v14 .un h
theorem g4_1_eq (G : KT2 R) (σ : GS) (h : Heap) : kgroups PP cfg NN HH 26 o4 [(some (3, true), [4, 5, 6, 7]), (none, [8, 9]), (some (9, true), [10, 11, 12, 13]), (none, [14, 15, 16])] σ h (fun σ h => G .nrm (σ 2) (σ 3) h) = g4_1 k G (σ 0) (σ 4) (σ 11) (σ 14) h := (kgroups_cons (fun σ h => g4_2_eq k G σ h)).trans (by kernel_rfl)
@[simp] def g4_0 (G : KT2 R) (v0 v4 v5 : GV) (h : Heap) : Option R := (gbinop PP .eql 113 (.tmp 12) (.const .nilIface) v5 .nili).bind fun v13 => g4_1 k G v0 v4 v4 v13 h
theorem g4_0_eq (G : KT2 R) (σ : GS) (h : Heap) : kgroups PP cfg NN HH 26 o4 [(none, [0, 1, 2, 3]), (some (3, true), [4, 5, 6, 7]), (none, [8, 9]), (some (9, true), [10, 11, 12, 13]), (none, [14, 15, 16])] σ h (fun σ h => G .nrm (σ 2) (σ 3) h) = g4_0 k G (σ 0) (σ 4) (σ 5) h := (kgroups_cons (fun σ h => g4_1_eq k G σ h)).trans (by kernel_rfl)
@[simp] def n4 (G : KT2 R) (v0 v4 v5 : GV) (h : Heap) : Option R := g4_0 k G v0 v4 v5 h
theorem n4_eq (G : KT2 R) (σ : GS) (h : Heap) : KC k 26 c4 σ h (fun x σ h => G x (σ 2) (σ 3) h) = n4 k G (σ 0) (σ 4) (σ 5) h := (kregion_eq (id := 2) (draw := false) (ops := o4) (gs := [(none, [0, 1, 2, 3]), (some (3, true), [4, 5, 6, 7]), (none, [8, 9]), (some (9, true), [10, 11, 12, 13]), (none, [14, 15, 16])]) (by kernel_rfl) (by kernel_rfl) (by kernel_rfl)).trans (g4_0_eq k G σ h)
@[simp] def n2 (G : KT2 R) (v0 v4 v5 : GV) (h : Heap) : Option R := n4 k (fun x v2 v3 h => kx x (n3 k G v2 v3 h) (G x v2 v3 h)) v0 v4 v5 h
theorem n2_eq (G : KT2 R) (σ : GS) (h : Heap) : KC k 26 c2 σ h (fun x σ h => G x (σ 2) (σ 3) h) = n2 k G (σ 0) (σ 4) (σ 5) h := (kseq (b := c3) rfl (fun σ h => n3_eq k G σ h)).trans (n4_eq k (fun x v2 v3 h => kx x (n3 k G v2 v3 h) (G x v2 v3 h)) σ h)
noncomputable def c5 : Code := cL c1
@[simp] def n1 (G : KT2 R) (v0 v2 v3 : GV) (h : Heap) : Option R := (kN NN fn.strconv_ParseInt [v0, (.int .i64 10), (.int .i64 64)] h).bind fun v8 => (kxt 0 v8).bind fun v9 => (kxt 1 v8).bind fun v10 => n2 k G v0 v9 v10 h
theorem n1_eq (G : KT2 R) (σ : GS) (h : Heap) : KC k 26 c1 σ h (fun x σ h => G x (σ 2) (σ 3) h) = n1 k G (σ 0) (σ 2) (σ 3) h := (kseq (a := c5) (b := c2) rfl (fun σ h => n2_eq k G σ h)).trans (by kernel_rfl)
noncomputable def c6 : Code := cL c0
@[simp] def n0 (G : KT2 R) (v0 : GV) (h : Heap) : Option R := n1 k G v0 (.int .i64 0) (.bool false) h
theorem n0_eq (G : KT2 R) (σ : GS) (h : Heap) : KC k 26 c0 σ h (fun x σ h => G x (σ 2) (σ 3) h) = n0 k G (σ 0) h := (kseq (a := c6) (b := c1) rfl (fun σ h => n1_eq k G σ h)).trans (by kernel_rfl)
def run {R : Type} (k : Nat) (a0 : GV) (h : Heap) (fin : GV → Heap → Option R) : Option R := n0 k (fun x v2 v3 h => kend x (fin (.tup [v2, v3]) h)) a0 h
theorem run_eq {R : Type} (k : Nat) (a0 : GV) (h : Heap) (fin : GV → Heap → Option R) : kfun PP cfg NN HH k fn.impl_numberOf [a0] h fin = run k a0 h fin := (kfun_eq (nt := 26) (c := c0) (show PP.funcs[fn.impl_numberOf]? = some Tryd.f87 by kernel_rfl) (by kernel_rfl) (by kernel_rfl) (fun x σ h => by cases x <;> kernel_rfl)).trans (n0_eq k (fun x v2 v3 h => kend x (fin (.tup [v2, v3]) h)) _ h)
theorem gives {k : Nat} {a0 : GV} {v : GV} (e : run k a0 [] finN = some v) : NN fn.impl_numberOf [a0] = some v := nω_of (by kernel_rfl) ((run_eq k a0 [] finN).trans e)
end S.impl_numberOf
/-! spec_l10Number -/
namespace S.spec_l10Number
noncomputable def c0 : Code := bodyOf Tryd.f83
noncomputable def c1 : Code := cR c0
noncomputable def c2 : Code := cR c1
noncomputable def c3 : Code := cR c2
noncomputable def c4 : Code := cR c3
noncomputable def c5 : Code := cR c4
noncomputable def c6 : Code := cR c5
noncomputable def c7 : Code := cR c6
noncomputable def c8 : Code := cR c7
noncomputable def c9 : Code := cR c8
@[simp] def n9 {R : Type} (k : Nat) (G : KT2 R) (v6 : GV) (h : Heap) : Option R := G .ret v6 (.bool true) h
theorem n9_eq (G : KT2 R) (σ : GS) (h : Heap) : KC k 68 c9 σ h (fun x σ h => G x (σ 2) (σ 3) h) = n9 k G (σ 6) h := by kernel_rfl
noncomputable def c10 : Code := cL c8
@[simp] def n8 (G : KT2 R) (v2 v3 v5 v6 : GV) (h : Heap) : Option R := kcond v5 ((kun .neg v6).bind fun v66 => n9 k G v66 h) (n9 k G v6 h)
theorem n8_eq (G : KT2 R) (σ : GS) (h : Heap) : KC k 68 c8 σ h (fun x σ h => G x (σ 2) (σ 3) h) = n8 k G (σ 2) (σ 3) (σ 5) (σ 6) h := (kseq (a := c10) (b := c9) rfl (fun σ h => n9_eq k G σ h)).trans (by kernel_rfl)
noncomputable def c11 : Code := cL c7
noncomputable def c12 : Code := cR c11
@[simp] def n12 {R : Type} (k : Nat) (G : KT4 R) (v2 v3 v5 v6 v63 : GV) (h : Heap) : Option R := kcond v63 (G .ret (.int .i64 0) (.bool false) v5 v6 h) (G .nrm v2 v3 v5 v6 h)
theorem n12_eq (G : KT4 R) (σ : GS) (h : Heap) : KC k 68 c12 σ h (fun x σ h => G x (σ 2) (σ 3) (σ 5) (σ 6) h) = n12 k G (σ 2) (σ 3) (σ 5) (σ 6) (σ 63) h := by kernel_rfl
noncomputable def c13 : Code := cL c11
noncomputable def o13 : Array Oper := cO c13
@[simp] def g13_4 {R : Type} (k : Nat) (G : KT5 R) (v2 v3 v5 v6 v56 v62 : GV) (h : Heap) : Option R := (kpick v56 v62 (.bool false)).bind fun v63 => G .nrm v2 v3 v5 v6 v63 h
theorem g13_4_eq (G : KT5 R) (σ : GS) (h : Heap) : kgroups PP cfg NN HH 68 o13 [(none, [11])] σ h (fun σ h => G .nrm (σ 2) (σ 3) (σ 5) (σ 6) (σ 63) h) = g13_4 k G (σ 2) (σ 3) (σ 5) (σ 6) (σ 56) (σ 62) h := by kernel_rfl
@[simp] def g13_3 (G : KT5 R) (v2 v3 v5 v6 v56 v58 v61 : GV) (h : Heap) : Option R := bif tr true v56 then (kpick v58 (.bool true) v61).bind fun v62 => g13_4 k G v2 v3 v5 v6 v56 v62 h else g13_4 k G v2 v3 v5 v6 v56 .un h
theorem g13_3_eq (G : KT5 R) (σ : GS) (h : Heap) : kgroups PP cfg NN HH 68 o13 [(some (4, true), [10]), (none, [11])] σ h (fun σ h => G .nrm (σ 2) (σ 3) (σ 5) (σ 6) (σ 63) h) = g13_3 k G (σ 2) (σ 3) (σ 5) (σ 6) (σ 56) (σ 58) (σ 61) h := (kgroups_cons (fun σ h => g13_4_eq k G σ h)).trans (by kernel_rfl)
@[simp] def g13_2 (G : KT5 R) (v0 v2 v3 v5 v6 v56 v58 : GV) (h : Heap) : Option R := bif tr false v58 then (klenS v0).bind fun v60 => (kbin .gtr v60 (.int .i64 1)).bind fun v61 => g13_3 k G v2 v3 v5 v6 v56 v58 v61 h else g13_3 k G v2 v3 v5 v6 v56 v58 .un h
theorem g13_2_eq (G : KT5 R) (σ : GS) (h : Heap) : kgroups PP cfg NN HH 68 o13 [(some (6, false), [7, 8, 9]), (some (4, true), [10]), (none, [11])] σ h (fun σ h => G .nrm (σ 2) (σ 3) (σ 5) (σ 6) (σ 63) h) = g13_2 k G (σ 0) (σ 2) (σ 3) (σ 5) (σ 6) (σ 56) (σ 58) h := (kgroups_cons (fun σ h => g13_3_eq k G σ h)).trans (by kernel_rfl)
@[simp] def g13_1 (G : KT5 R) (v0 v2 v3 v5 v6 v56 : GV) (h : Heap) : Option R := bif tr true v56 then g13_2 k G v0 v2 v3 v5 v6 v56 v5 h else g13_2 k G v0 v2 v3 v5 v6 v56 .un h
theorem g13_1_eq (G : KT5 R) (σ : GS) (h : Heap) : kgroups PP cfg NN HH 68 o13 [(some (4, true), [5, 6]), (some (6, false), [7, 8, 9]), (some (4, true), [10]), (none, [11])] σ h (fun σ h => G .nrm (σ 2) (σ 3) (σ 5) (σ 6) (σ 63) h) = g13_1 k G (σ 0) (σ 2) (σ 3) (σ 5) (σ 6) (σ 56) h := (kgroups_cons (fun σ h => g13_2_eq k G σ h)).trans (by kernel_rfl)
@[simp] def g13_0 (G : KT5 R) (v0 v2 v3 v4 v5 v6 : GV) (h : Heap) : Option R := (kbyte v0 v4).bind fun v54 => (kbin .eql v54 (.int .u8 48)).bind fun v55 => g13_1 k G v0 v2 v3 v5 v6 v55 h
theorem g13_0_eq (G : KT5 R) (σ : GS) (h : Heap) : kgroups PP cfg NN HH 68 o13 [(none, [0, 1, 2, 3, 4]), (some (4, true), [5, 6]), (some (6, false), [7, 8, 9]), (some (4, true), [10]), (none, [11])] σ h (fun σ h => G .nrm (σ 2) (σ 3) (σ 5) (σ 6) (σ 63) h) = g13_0 k G (σ 0) (σ 2) (σ 3) (σ 4) (σ 5) (σ 6) h := (kgroups_cons (fun σ h => g13_1_eq k G σ h)).trans (by kernel_rfl)
@[simp] def n13 (G : KT5 R) (v0 v2 v3 v4 v5 v6 : GV) (h : Heap) : Option R := g13_0 k G v0 v2 v3 v4 v5 v6 h
theorem n13_eq (G : KT5 R) (σ : GS) (h : Heap) : KC k 68 c13 σ h (fun x σ h => G x (σ 2) (σ 3) (σ 5) (σ 6) (σ 63) h) = n13 k G (σ 0) (σ 2) (σ 3) (σ 4) (σ 5) (σ 6) h := (kregion_eq (id := 15) (draw := false) (ops := o13) (gs := [(none, [0, 1, 2, 3, 4]), (some (4, true), [5, 6]), (some (6, false), [7, 8, 9]), (some (4, true), [10]), (none, [11])]) (by kernel_rfl) (by kernel_rfl) (by kernel_rfl)).trans (g13_0_eq k G σ h)
@[simp] def n11 (G : KT4 R) (v0 v2 v3 v4 v5 v6 : GV) (h : Heap) : Option R := n13 k (fun x v2 v3 v5 v6 v63 h => kx x (n12 k G v2 v3 v5 v6 v63 h) (G x v2 v3 v5 v6 h)) v0 v2 v3 v4 v5 v6 h
theorem n11_eq (G : KT4 R) (σ : GS) (h : Heap) : KC k 68 c11 σ h (fun x σ h => G x (σ 2) (σ 3) (σ 5) (σ 6) h) = n11 k G (σ 0) (σ 2) (σ 3) (σ 4) (σ 5) (σ 6) h := (kseq (b := c12) rfl (fun σ h => n12_eq k G σ h)).trans (n13_eq k (fun x v2 v3 v5 v6 v63 h => kx x (n12 k G v2 v3 v5 v6 v63 h) (G x v2 v3 v5 v6 h)) σ h)
@[simp] def n7 (G : KT2 R) (v0 v2 v3 v4 v5 v6 : GV) (h : Heap) : Option R := n11 k (fun x v2 v3 v5 v6 h => kx x (n8 k G v2 v3 v5 v6 h) (G x v2 v3 h)) v0 v2 v3 v4 v5 v6 h
theorem n7_eq (G : KT2 R) (σ : GS) (h : Heap) : KC k 68 c7 σ h (fun x σ h => G x (σ 2) (σ 3) h) = n7 k G (σ 0) (σ 2) (σ 3) (σ 4) (σ 5) (σ 6) h := (kseq (b := c8) rfl (fun σ h => n8_eq k G σ h)).trans (n11_eq k (fun x v2 v3 v5 v6 h => kx x (n8 k G v2 v3 v5 v6 h) (G x v2 v3 h)) σ h)
noncomputable def c14 : Code := cL c6
noncomputable def c15 : Code := cR c14
noncomputable def c16 : Code := cL c15
noncomputable def c17 : Code := cL c16
noncomputable def c18 : Code := cR c17
noncomputable def c19 : Code := cR c18
@[simp] def n19 {R : Type} (k : Nat) (G : KT7 R) (v0 v2 v3 v4 v5 v6 v7 : GV) (h : Heap) : Option R := (kbin .add v7 (.int .i64 1)).bind fun v33 => G .nrm v0 v2 v3 v4 v5 v6 v33 h
theorem n19_eq (G : KT7 R) (σ : GS) (h : Heap) : KC k 68 c19 σ h (fun x σ h => G x (σ 0) (σ 2) (σ 3) (σ 4) (σ 5) (σ 6) (σ 7) h) = n19 k G (σ 0) (σ 2) (σ 3) (σ 4) (σ 5) (σ 6) (σ 7) h := by kernel_rfl
noncomputable def c20 : Code := cL c18
noncomputable def c21 : Code := cL c20
noncomputable def c22 : Code := cR c21
@[simp] def n22 {R : Type} (k : Nat) (G : KT7 R) (v0 v2 v3 v4 v5 v6 v7 : GV) (h : Heap) : Option R := (kbin .mul v6 (.int .i64 10)).bind fun v45 => (kbyte v0 v7).bind fun v48 => (kbin .sub v48 (.int .u8 48)).bind fun v49 => (kconvI .i64 v49).bind fun v50 => (kbin .add v45 v50).bind fun v51 => G .nrm v0 v2 v3 v4 v5 v51 v7 h
theorem n22_eq (G : KT7 R) (σ : GS) (h : Heap) : KC k 68 c22 σ h (fun x σ h => G x (σ 0) (σ 2) (σ 3) (σ 4) (σ 5) (σ 6) (σ 7) h) = n22 k G (σ 0) (σ 2) (σ 3) (σ 4) (σ 5) (σ 6) (σ 7) h := by kernel_rfl
noncomputable def c23 : Code := cL c21
noncomputable def c24 : Code := cR c23
@[simp] def n24 {R : Type} (k : Nat) (G : KT7 R) (v0 v2 v3 v4 v5 v6 v7 v43 : GV) (h : Heap) : Option R := kcond v43 (G .ret v0 (.int .i64 0) (.bool false) v4 v5 v6 v7 h) (G .nrm v0 v2 v3 v4 v5 v6 v7 h)
theorem n24_eq (G : KT7 R) (σ : GS) (h : Heap) : KC k 68 c24 σ h (fun x σ h => G x (σ 0) (σ 2) (σ 3) (σ 4) (σ 5) (σ 6) (σ 7) h) = n24 k G (σ 0) (σ 2) (σ 3) (σ 4) (σ 5) (σ 6) (σ 7) (σ 43) h := by kernel_rfl
noncomputable def c25 : Code := cL c23
noncomputable def o25 : Array Oper := cO c25
@[simp] def g25_2 {R : Type} (k : Nat) (G : KT8 R) (v0 v2 v3 v4 v5 v6 v7 v38 v42 : GV) (h : Heap) : Option R := (kpick v38 (.bool true) v42).bind fun v43 => G .nrm v0 v2 v3 v4 v5 v6 v7 v43 h
theorem g25_2_eq (G : KT8 R) (σ : GS) (h : Heap) : kgroups PP cfg NN HH 68 o25 [(none, [9])] σ h (fun σ h => G .nrm (σ 0) (σ 2) (σ 3) (σ 4) (σ 5) (σ 6) (σ 7) (σ 43) h) = g25_2 k G (σ 0) (σ 2) (σ 3) (σ 4) (σ 5) (σ 6) (σ 7) (σ 38) (σ 42) h := by kernel_rfl
@[simp] def g25_1 (G : KT8 R) (v0 v2 v3 v4 v5 v6 v7 v38 : GV) (h : Heap) : Option R := bif tr false v38 then (kbyte v0 v7).bind fun v41 => (kbin .gtr v41 (.int .u8 57)).bind fun v42 => g25_2 k G v0 v2 v3 v4 v5 v6 v7 v38 v42 h else g25_2 k G v0 v2 v3 v4 v5 v6 v7 v38 .un h
theorem g25_1_eq (G : KT8 R) (σ : GS) (h : Heap) : kgroups PP cfg NN HH 68 o25 [(some (4, false), [5, 6, 7, 8]), (none, [9])] σ h (fun σ h => G .nrm (σ 0) (σ 2) (σ 3) (σ 4) (σ 5) (σ 6) (σ 7) (σ 43) h) = g25_1 k G (σ 0) (σ 2) (σ 3) (σ 4) (σ 5) (σ 6) (σ 7) (σ 38) h := (kgroups_cons (fun σ h => g25_2_eq k G σ h)).trans (by kernel_rfl)
@[simp] def g25_0 (G : KT8 R) (v0 v2 v3 v4 v5 v6 v7 : GV) (h : Heap) : Option R := (kbyte v0 v7).bind fun v36 => (kbin .lss v36 (.int .u8 48)).bind fun v37 => g25_1 k G v0 v2 v3 v4 v5 v6 v7 v37 h
theorem g25_0_eq (G : KT8 R) (σ : GS) (h : Heap) : kgroups PP cfg NN HH 68 o25 [(none, [0, 1, 2, 3, 4]), (some (4, false), [5, 6, 7, 8]), (none, [9])] σ h (fun σ h => G .nrm (σ 0) (σ 2) (σ 3) (σ 4) (σ 5) (σ 6) (σ 7) (σ 43) h) = g25_0 k G (σ 0) (σ 2) (σ 3) (σ 4) (σ 5) (σ 6) (σ 7) h := (kgroups_cons (fun σ h => g25_1_eq k G σ h)).trans (by kernel_rfl)
@[simp] def n25 (G : KT8 R) (v0 v2 v3 v4 v5 v6 v7 : GV) (h : Heap) : Option R := g25_0 k G v0 v2 v3 v4 v5 v6 v7 h
theorem n25_eq (G : KT8 R) (σ : GS) (h : Heap) : KC k 68 c25 σ h (fun x σ h => G x (σ 0) (σ 2) (σ 3) (σ 4) (σ 5) (σ 6) (σ 7) (σ 43) h) = n25 k G (σ 0) (σ 2) (σ 3) (σ 4) (σ 5) (σ 6) (σ 7) h := (kregion_eq (id := 12) (draw := false) (ops := o25) (gs := [(none, [0, 1, 2, 3, 4]), (some (4, false), [5, 6, 7, 8]), (none, [9])]) (by kernel_rfl) (by kernel_rfl) (by kernel_rfl)).trans (g25_0_eq k G σ h)
@[simp] def n23 (G : KT7 R) (v0 v2 v3 v4 v5 v6 v7 : GV) (h : Heap) : Option R := n25 k (fun x v0 v2 v3 v4 v5 v6 v7 v43 h => kx x (n24 k G v0 v2 v3 v4 v5 v6 v7 v43 h) (G x v0 v2 v3 v4 v5 v6 v7 h)) v0 v2 v3 v4 v5 v6 v7 h
theorem n23_eq (G : KT7 R) (σ : GS) (h : Heap) : KC k 68 c23 σ h (fun x σ h => G x (σ 0) (σ 2) (σ 3) (σ 4) (σ 5) (σ 6) (σ 7) h) = n23 k G (σ 0) (σ 2) (σ 3) (σ 4) (σ 5) (σ 6) (σ 7) h := (kseq (b := c24) rfl (fun σ h => n24_eq k G σ h)).trans (n25_eq k (fun x v0 v2 v3 v4 v5 v6 v7 v43 h => kx x (n24 k G v0 v2 v3 v4 v5 v6 v7 v43 h) (G x v0 v2 v3 v4 v5 v6 v7 h)) σ h)
@[simp] def n21 (G : KT7 R) (v0 v2 v3 v4 v5 v6 v7 : GV) (h : Heap) : Option R := n23 k (fun x v0 v2 v3 v4 v5 v6 v7 h => kx x (n22 k G v0 v2 v3 v4 v5 v6 v7 h) (G x v0 v2 v3 v4 v5 v6 v7 h)) v0 v2 v3 v4 v5 v6 v7 h
theorem n21_eq (G : KT7 R) (σ : GS) (h : Heap) : KC k 68 c21 σ h (fun x σ h => G x (σ 0) (σ 2) (σ 3) (σ 4) (σ 5) (σ 6) (σ 7) h) = n21 k G (σ 0) (σ 2) (σ 3) (σ 4) (σ 5) (σ 6) (σ 7) h := (kseq (b := c22) rfl (fun σ h => n22_eq k G σ h)).trans (n23_eq k (fun x v0 v2 v3 v4 v5 v6 v7 h => kx x (n22 k G v0 v2 v3 v4 v5 v6 v7 h) (G x v0 v2 v3 v4 v5 v6 v7 h)) σ h)
@[simp] def n20 (G : KT7 R) (v0 v2 v3 v4 v5 v6 v7 : GV) (h : Heap) : Option R := n21 k (fun x v0 v2 v3 v4 v5 v6 v7 h => kb 1 x fun x => G x v0 v2 v3 v4 v5 v6 v7 h) v0 v2 v3 v4 v5 v6 v7 h
theorem n20_eq (G : KT7 R) (σ : GS) (h : Heap) : KC k 68 c20 σ h (fun x σ h => G x (σ 0) (σ 2) (σ 3) (σ 4) (σ 5) (σ 6) (σ 7) h) = n20 k G (σ 0) (σ 2) (σ 3) (σ 4) (σ 5) (σ 6) (σ 7) h := (kblock_eq (a := c21) rfl).trans (n21_eq k (fun x v0 v2 v3 v4 v5 v6 v7 h => kb 1 x fun x => G x v0 v2 v3 v4 v5 v6 v7 h) σ h)
@[simp] def n18 (G : KT7 R) (v0 v2 v3 v4 v5 v6 v7 : GV) (h : Heap) : Option R := n20 k (fun x v0 v2 v3 v4 v5 v6 v7 h => kx x (n19 k G v0 v2 v3 v4 v5 v6 v7 h) (G x v0 v2 v3 v4 v5 v6 v7 h)) v0 v2 v3 v4 v5 v6 v7 h
theorem n18_eq (G : KT7 R) (σ : GS) (h : Heap) : KC k 68 c18 σ h (fun x σ h => G x (σ 0) (σ 2) (σ 3) (σ 4) (σ 5) (σ 6) (σ 7) h) = n18 k G (σ 0) (σ 2) (σ 3) (σ 4) (σ 5) (σ 6) (σ 7) h := (kseq (b := c19) rfl (fun σ h => n19_eq k G σ h)).trans (n20_eq k (fun x v0 v2 v3 v4 v5 v6 v7 h => kx x (n19 k G v0 v2 v3 v4 v5 v6 v7 h) (G x v0 v2 v3 v4 v5 v6 v7 h)) σ h)
noncomputable def c26 : Code := cL c17
@[simp] def n17 (G : KT7 R) (v0 v2 v3 v4 v5 v6 v7 : GV) (h : Heap) : Option R := (klenS v0).bind fun v30 => (kbin .lss v7 v30).bind fun v31 => kcond v31 (n18 k G v0 v2 v3 v4 v5 v6 v7 h) (G (.ext 0) v0 v2 v3 v4 v5 v6 v7 h)
theorem n17_eq (G : KT7 R) (σ : GS) (h : Heap) : KC k 68 c17 σ h (fun x σ h => G x (σ 0) (σ 2) (σ 3) (σ 4) (σ 5) (σ 6) (σ 7) h) = n17 k G (σ 0) (σ 2) (σ 3) (σ 4) (σ 5) (σ 6) (σ 7) h := (kseq (a := c26) (b := c18) rfl (fun σ h => n18_eq k G σ h)).trans (by kernel_rfl)
def l16 {R : Type} (k : Nat) (G : KT6 R) : Nat → GV → GV → GV → GV → GV → GV → GV → Heap → Option R
  | 0, _, _, _, _, _, _, _, _ => none
  | r + 1, v0, v2, v3, v4, v5, v6, v7, h => n17 k (fun x v0 v2 v3 v4 v5 v6 v7 h => kx x (l16 k G r v0 v2 v3 v4 v5 v6 v7 h) (G x v0 v2 v3 v4 v5 v6 h)) v0 v2 v3 v4 v5 v6 v7 h
theorem l16_eq {R : Type} (k : Nat) (G : KT6 R) : ∀ (r : Nat) (σ : GS) (h : Heap), kloop (fun σ h K => KC k 68 c17 σ h K) r σ h (fun x σ h => G x (σ 0) (σ 2) (σ 3) (σ 4) (σ 5) (σ 6) h) = l16 k G r (σ 0) (σ 2) (σ 3) (σ 4) (σ 5) (σ 6) (σ 7) h
  | 0, _, _ => rfl
  | r + 1, σ, h => (kloop_eq (fun σ h => l16_eq k G r σ h)).trans (n17_eq k (fun x v0 v2 v3 v4 v5 v6 v7 h => kx x (l16 k G r v0 v2 v3 v4 v5 v6 v7 h) (G x v0 v2 v3 v4 v5 v6 h)) σ h)
@[simp] def n16 (G : KT6 R) (v0 v2 v3 v4 v5 v6 v7 : GV) (h : Heap) : Option R := l16 k G k v0 v2 v3 v4 v5 v6 v7 h
theorem n16_eq (G : KT6 R) (σ : GS) (h : Heap) : KC k 68 c16 σ h (fun x σ h => G x (σ 0) (σ 2) (σ 3) (σ 4) (σ 5) (σ 6) h) = n16 k G (σ 0) (σ 2) (σ 3) (σ 4) (σ 5) (σ 6) (σ 7) h := (kloopc_eq (a := c17) rfl).trans (l16_eq k G k σ h)
@[simp] def n15 (G : KT6 R) (v0 v2 v3 v4 v5 v6 v7 : GV) (h : Heap) : Option R := n16 k (fun x v0 v2 v3 v4 v5 v6 h => kb 0 x fun x => G x v0 v2 v3 v4 v5 v6 h) v0 v2 v3 v4 v5 v6 v7 h
theorem n15_eq (G : KT6 R) (σ : GS) (h : Heap) : KC k 68 c15 σ h (fun x σ h => G x (σ 0) (σ 2) (σ 3) (σ 4) (σ 5) (σ 6) h) = n15 k G (σ 0) (σ 2) (σ 3) (σ 4) (σ 5) (σ 6) (σ 7) h := (kblock_eq (a := c16) rfl).trans (n16_eq k (fun x v0 v2 v3 v4 v5 v6 h => kb 0 x fun x => G x v0 v2 v3 v4 v5 v6 h) σ h)
noncomputable def c27 : Code := cL c14
@[simp] def n14 (G : KT6 R) (v0 v2 v3 v4 v5 v6 : GV) (h : Heap) : Option R := n15 k G v0 v2 v3 v4 v5 v6 v4 h
theorem n14_eq (G : KT6 R) (σ : GS) (h : Heap) : KC k 68 c14 σ h (fun x σ h => G x (σ 0) (σ 2) (σ 3) (σ 4) (σ 5) (σ 6) h) = n14 k G (σ 0) (σ 2) (σ 3) (σ 4) (σ 5) (σ 6) h := (kseq (a := c27) (b := c15) rfl (fun σ h => n15_eq k G σ h)).trans (by kernel_rfl)
@[simp] def n6 (G : KT2 R) (v0 v2 v3 v4 v5 v6 : GV) (h : Heap) : Option R := n14 k (fun x v0 v2 v3 v4 v5 v6 h => kx x (n7 k G v0 v2 v3 v4 v5 v6 h) (G x v2 v3 h)) v0 v2 v3 v4 v5 v6 h
theorem n6_eq (G : KT2 R) (σ : GS) (h : Heap) : KC k 68 c6 σ h (fun x σ h => G x (σ 2) (σ 3) h) = n6 k G (σ 0) (σ 2) (σ 3) (σ 4) (σ 5) (σ 6) h := (kseq (b := c7) rfl (fun σ h => n7_eq k G σ h)).trans (n14_eq k (fun x v0 v2 v3 v4 v5 v6 h => kx x (n7 k G v0 v2 v3 v4 v5 v6 h) (G x v2 v3 h)) σ h)
noncomputable def c28 : Code := cL c5
noncomputable def c29 : Code := cR c28
@[simp] def n29 {R : Type} (k : Nat) (G : KT6 R) (v0 v2 v3 v4 v5 v6 v26 : GV) (h : Heap) : Option R := kcond v26 (G .ret v0 (.int .i64 0) (.bool false) v4 v5 v6 h) (G .nrm v0 v2 v3 v4 v5 v6 h)
theorem n29_eq (G : KT6 R) (σ : GS) (h : Heap) : KC k 68 c29 σ h (fun x σ h => G x (σ 0) (σ 2) (σ 3) (σ 4) (σ 5) (σ 6) h) = n29 k G (σ 0) (σ 2) (σ 3) (σ 4) (σ 5) (σ 6) (σ 26) h := by kernel_rfl
noncomputable def c30 : Code := cL c28
noncomputable def o30 : Array Oper := cO c30
@[simp] def g30_2 {R : Type} (k : Nat) (G : KT7 R) (v0 v2 v3 v4 v5 v6 v20 v25 : GV) (h : Heap) : Option R := (kpick v20 (.bool true) v25).bind fun v26 => G .nrm v0 v2 v3 v4 v5 v6 v26 h
theorem g30_2_eq (G : KT7 R) (σ : GS) (h : Heap) : kgroups PP cfg NN HH 68 o30 [(none, [11])] σ h (fun σ h => G .nrm (σ 0) (σ 2) (σ 3) (σ 4) (σ 5) (σ 6) (σ 26) h) = g30_2 k G (σ 0) (σ 2) (σ 3) (σ 4) (σ 5) (σ 6) (σ 20) (σ 25) h := by kernel_rfl
@[simp] def g30_1 (G : KT7 R) (v0 v2 v3 v4 v5 v6 v20 : GV) (h : Heap) : Option R := bif tr false v20 then (klenS v0).bind fun v22 => (kbin .sub v22 v4).bind fun v24 => (kbin .gtr v24 (.int .i64 9)).bind fun v25 => g30_2 k G v0 v2 v3 v4 v5 v6 v20 v25 h else g30_2 k G v0 v2 v3 v4 v5 v6 v20 .un h
theorem g30_1_eq (G : KT7 R) (σ : GS) (h : Heap) : kgroups PP cfg NN HH 68 o30 [(some (5, false), [6, 7, 8, 9, 10]), (none, [11])] σ h (fun σ h => G .nrm (σ 0) (σ 2) (σ 3) (σ 4) (σ 5) (σ 6) (σ 26) h) = g30_1 k G (σ 0) (σ 2) (σ 3) (σ 4) (σ 5) (σ 6) (σ 20) h := (kgroups_cons (fun σ h => g30_2_eq k G σ h)).trans (by kernel_rfl)
@[simp] def g30_0 (G : KT7 R) (v0 v2 v3 v4 v5 v6 : GV) (h : Heap) : Option R := (klenS v0).bind fun v16 => (kbin .sub v16 v4).bind fun v18 => (kbin .lss v18 (.int .i64 1)).bind fun v19 => g30_1 k G v0 v2 v3 v4 v5 v6 v19 h
theorem g30_0_eq (G : KT7 R) (σ : GS) (h : Heap) : kgroups PP cfg NN HH 68 o30 [(none, [0, 1, 2, 3, 4, 5]), (some (5, false), [6, 7, 8, 9, 10]), (none, [11])] σ h (fun σ h => G .nrm (σ 0) (σ 2) (σ 3) (σ 4) (σ 5) (σ 6) (σ 26) h) = g30_0 k G (σ 0) (σ 2) (σ 3) (σ 4) (σ 5) (σ 6) h := (kgroups_cons (fun σ h => g30_1_eq k G σ h)).trans (by kernel_rfl)
@[simp] def n30 (G : KT7 R) (v0 v2 v3 v4 v5 v6 : GV) (h : Heap) : Option R := g30_0 k G v0 v2 v3 v4 v5 v6 h
theorem n30_eq (G : KT7 R) (σ : GS) (h : Heap) : KC k 68 c30 σ h (fun x σ h => G x (σ 0) (σ 2) (σ 3) (σ 4) (σ 5) (σ 6) (σ 26) h) = n30 k G (σ 0) (σ 2) (σ 3) (σ 4) (σ 5) (σ 6) h := (kregion_eq (id := 7) (draw := false) (ops := o30) (gs := [(none, [0, 1, 2, 3, 4, 5]), (some (5, false), [6, 7, 8, 9, 10]), (none, [11])]) (by kernel_rfl) (by kernel_rfl) (by kernel_rfl)).trans (g30_0_eq k G σ h)
@[simp] def n28 (G : KT6 R) (v0 v2 v3 v4 v5 v6 : GV) (h : Heap) : Option R := n30 k (fun x v0 v2 v3 v4 v5 v6 v26 h => kx x (n29 k G v0 v2 v3 v4 v5 v6 v26 h) (G x v0 v2 v3 v4 v5 v6 h)) v0 v2 v3 v4 v5 v6 h
theorem n28_eq (G : KT6 R) (σ : GS) (h : Heap) : KC k 68 c28 σ h (fun x σ h => G x (σ 0) (σ 2) (σ 3) (σ 4) (σ 5) (σ 6) h) = n28 k G (σ 0) (σ 2) (σ 3) (σ 4) (σ 5) (σ 6) h := (kseq (b := c29) rfl (fun σ h => n29_eq k G σ h)).trans (n30_eq k (fun x v0 v2 v3 v4 v5 v6 v26 h => kx x (n29 k G v0 v2 v3 v4 v5 v6 v26 h) (G x v0 v2 v3 v4 v5 v6 h)) σ h)
@[simp] def n5 (G : KT2 R) (v0 v2 v3 v4 v5 v6 : GV) (h : Heap) : Option R := n28 k (fun x v0 v2 v3 v4 v5 v6 h => kx x (n6 k G v0 v2 v3 v4 v5 v6 h) (G x v2 v3 h)) v0 v2 v3 v4 v5 v6 h
theorem n5_eq (G : KT2 R) (σ : GS) (h : Heap) : KC k 68 c5 σ h (fun x σ h => G x (σ 2) (σ 3) h) = n5 k G (σ 0) (σ 2) (σ 3) (σ 4) (σ 5) (σ 6) h := (kseq (b := c6) rfl (fun σ h => n6_eq k G σ h)).trans (n28_eq k (fun x v0 v2 v3 v4 v5 v6 h => kx x (n6 k G v0 v2 v3 v4 v5 v6 h) (G x v2 v3 h)) σ h)
noncomputable def c31 : Code := cL c4
@[simp] def n4 (G : KT2 R) (v0 v2 v3 v4 v5 : GV) (h : Heap) : Option R := n5 k G v0 v2 v3 v4 v5 (.int .i64 0) h
theorem n4_eq (G : KT2 R) (σ : GS) (h : Heap) : KC k 68 c4 σ h (fun x σ h => G x (σ 2) (σ 3) h) = n4 k G (σ 0) (σ 2) (σ 3) (σ 4) (σ 5) h := (kseq (a := c31) (b := c5) rfl (fun σ h => n5_eq k G σ h)).trans (by kernel_rfl)
noncomputable def c32 : Code := cL c3
noncomputable def c33 : Code := cR c32
@[simp] def n33 {R : Type} (k : Nat) (G : KT5 R) (v0 v2 v3 v4 v5 v14 : GV) (h : Heap) : Option R := kcond v14 (G .nrm v0 v2 v3 (.int .i64 1) (.bool true) h) (G .nrm v0 v2 v3 v4 v5 h)
theorem n33_eq (G : KT5 R) (σ : GS) (h : Heap) : KC k 68 c33 σ h (fun x σ h => G x (σ 0) (σ 2) (σ 3) (σ 4) (σ 5) h) = n33 k G (σ 0) (σ 2) (σ 3) (σ 4) (σ 5) (σ 14) h := by kernel_rfl
noncomputable def c34 : Code := cL c32
noncomputable def o34 : Array Oper := cO c34
@[simp] def g34_2 {R : Type} (k : Nat) (G : KT6 R) (v0 v2 v3 v4 v5 v10 v13 : GV) (h : Heap) : Option R := (kpick v10 v13 (.bool false)).bind fun v14 => G .nrm v0 v2 v3 v4 v5 v14 h
theorem g34_2_eq (G : KT6 R) (σ : GS) (h : Heap) : kgroups PP cfg NN HH 68 o34 [(none, [6])] σ h (fun σ h => G .nrm (σ 0) (σ 2) (σ 3) (σ 4) (σ 5) (σ 14) h) = g34_2 k G (σ 0) (σ 2) (σ 3) (σ 4) (σ 5) (σ 10) (σ 13) h := by kernel_rfl
@[simp] def g34_1 (G : KT6 R) (v0 v2 v3 v4 v5 v10 : GV) (h : Heap) : Option R := bif tr true v10 then (kbyte v0 (.int .i64 0)).bind fun v12 => (kbin .eql v12 (.int .u8 45)).bind fun v13 => g34_2 k G v0 v2 v3 v4 v5 v10 v13 h else g34_2 k G v0 v2 v3 v4 v5 v10 .un h
theorem g34_1_eq (G : KT6 R) (σ : GS) (h : Heap) : kgroups PP cfg NN HH 68 o34 [(some (2, true), [3, 4, 5]), (none, [6])] σ h (fun σ h => G .nrm (σ 0) (σ 2) (σ 3) (σ 4) (σ 5) (σ 14) h) = g34_1 k G (σ 0) (σ 2) (σ 3) (σ 4) (σ 5) (σ 10) h := (kgroups_cons (fun σ h => g34_2_eq k G σ h)).trans (by kernel_rfl)
@[simp] def g34_0 (G : KT6 R) (v0 v2 v3 v4 v5 : GV) (h : Heap) : Option R := (kbin .neq v0 (.str { data := #[] })).bind fun v9 => g34_1 k G v0 v2 v3 v4 v5 v9 h
theorem g34_0_eq (G : KT6 R) (σ : GS) (h : Heap) : kgroups PP cfg NN HH 68 o34 [(none, [0, 1, 2]), (some (2, true), [3, 4, 5]), (none, [6])] σ h (fun σ h => G .nrm (σ 0) (σ 2) (σ 3) (σ 4) (σ 5) (σ 14) h) = g34_0 k G (σ 0) (σ 2) (σ 3) (σ 4) (σ 5) h := (kgroups_cons (fun σ h => g34_1_eq k G σ h)).trans (by kernel_rfl)
@[simp] def n34 (G : KT6 R) (v0 v2 v3 v4 v5 : GV) (h : Heap) : Option R := g34_0 k G v0 v2 v3 v4 v5 h
theorem n34_eq (G : KT6 R) (σ : GS) (h : Heap) : KC k 68 c34 σ h (fun x σ h => G x (σ 0) (σ 2) (σ 3) (σ 4) (σ 5) (σ 14) h) = n34 k G (σ 0) (σ 2) (σ 3) (σ 4) (σ 5) h := (kregion_eq (id := 3) (draw := false) (ops := o34) (gs := [(none, [0, 1, 2]), (some (2, true), [3, 4, 5]), (none, [6])]) (by kernel_rfl) (by kernel_rfl) (by kernel_rfl)).trans (g34_0_eq k G σ h)
@[simp] def n32 (G : KT5 R) (v0 v2 v3 v4 v5 : GV) (h : Heap) : Option R := n34 k (fun x v0 v2 v3 v4 v5 v14 h => kx x (n33 k G v0 v2 v3 v4 v5 v14 h) (G x v0 v2 v3 v4 v5 h)) v0 v2 v3 v4 v5 h
theorem n32_eq (G : KT5 R) (σ : GS) (h : Heap) : KC k 68 c32 σ h (fun x σ h => G x (σ 0) (σ 2) (σ 3) (σ 4) (σ 5) h) = n32 k G (σ 0) (σ 2) (σ 3) (σ 4) (σ 5) h := (kseq (b := c33) rfl (fun σ h => n33_eq k G σ h)).trans (n34_eq k (fun x v0 v2 v3 v4 v5 v14 h => kx x (n33 k G v0 v2 v3 v4 v5 v14 h) (G x v0 v2 v3 v4 v5 h)) σ h)
@[simp] def n3 (G : KT2 R) (v0 v2 v3 v4 v5 : GV) (h : Heap) : Option R := n32 k (fun x v0 v2 v3 v4 v5 h => kx x (n4 k G v0 v2 v3 v4 v5 h) (G x v2 v3 h)) v0 v2 v3 v4 v5 h
theorem n3_eq (G : KT2 R) (σ : GS) (h : Heap) : KC k 68 c3 σ h (fun x σ h => G x (σ 2) (σ 3) h) = n3 k G (σ 0) (σ 2) (σ 3) (σ 4) (σ 5) h := (kseq (b := c4) rfl (fun σ h => n4_eq k G σ h)).trans (n32_eq k (fun x v0 v2 v3 v4 v5 h => kx x (n4 k G v0 v2 v3 v4 v5 h) (G x v2 v3 h)) σ h)
noncomputable def c35 : Code := cL c2
@[simp] def n2 (G : KT2 R) (v0 v2 v3 v4 : GV) (h : Heap) : Option R := n3 k G v0 v2 v3 v4 (.bool false) h
theorem n2_eq (G : KT2 R) (σ : GS) (h : Heap) : KC k 68 c2 σ h (fun x σ h => G x (σ 2) (σ 3) h) = n2 k G (σ 0) (σ 2) (σ 3) (σ 4) h := (kseq (a := c35) (b := c3) rfl (fun σ h => n3_eq k G σ h)).trans (by kernel_rfl)
noncomputable def c36 : Code := cL c1
@[simp] def n1 (G : KT2 R) (v0 v2 v3 : GV) (h : Heap) : Option R := n2 k G v0 v2 v3 (.int .i64 0) h
theorem n1_eq (G : KT2 R) (σ : GS) (h : Heap) : KC k 68 c1 σ h (fun x σ h => G x (σ 2) (σ 3) h) = n1 k G (σ 0) (σ 2) (σ 3) h := (kseq (a := c36) (b := c2) rfl (fun σ h => n2_eq k G σ h)).trans (by kernel_rfl)
noncomputable def c37 : Code := cL c0
@[simp] def n0 (G : KT2 R) (v0 : GV) (h : Heap) : Option R := n1 k G v0 (.int .i64 0) (.bool false) h
theorem n0_eq (G : KT2 R) (σ : GS) (h : Heap) : KC k 68 c0 σ h (fun x σ h => G x (σ 2) (σ 3) h) = n0 k G (σ 0) h := (kseq (a := c37) (b := c1) rfl (fun σ h => n1_eq k G σ h)).trans (by kernel_rfl)
def run {R : Type} (k : Nat) (a0 : GV) (h : Heap) (fin : GV → Heap → Option R) : Option R := n0 k (fun x v2 v3 h => kend x (fin (.tup [v2, v3]) h)) a0 h
theorem run_eq {R : Type} (k : Nat) (a0 : GV) (h : Heap) (fin : GV → Heap → Option R) : kfun PP cfg NN HH k fn.spec_l10Number [a0] h fin = run k a0 h fin := (kfun_eq (nt := 68) (c := c0) (show PP.funcs[fn.spec_l10Number]? = some Tryd.f83 by kernel_rfl) (by kernel_rfl) (by kernel_rfl) (fun x σ h => by cases x <;> kernel_rfl)).trans (n0_eq k (fun x v2 v3 h => kend x (fin (.tup [v2, v3]) h)) _ h)
theorem gives {k : Nat} {a0 : GV} {v : GV} (e : run k a0 [] finN = some v) : NN fn.spec_l10Number [a0] = some v := nω_of (by kernel_rfl) ((run_eq k a0 [] finN).trans e)
end S.spec_l10Number
end
end Go.Proofs.YtklhdbkaejbajaaDoor.G
