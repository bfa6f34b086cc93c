/- What these functions do, told for open values, out of the machine with continuations. Printed by a program of this session. -/
import Derived.Test.YtolhjndfplfjpaaSA1
import Derived.KernelRfl
namespace Go.Proofs.Ytolhjndfplfjpaa.G
open Go.RowKit
set_option linter.unusedVariables false
set_option maxRecDepth 100000
noncomputable section
variable {R : Type} (k : Nat)
/-! spec_l4Row -/
namespace S.spec_l4Row
noncomputable def c0 : Code := bodyOf Try.f67
noncomputable def c1 : Code := cR c0
noncomputable def c2 : Code := cR c1
noncomputable def c3 : Code := cR c2
@[simp] def n3 {R : Type} (k : Nat) (G : KT1 R) (v5 : GV) (h : Heap) : Option R := G .ret v5 h
theorem n3_eq (G : KT1 R) (σ : GS) (h : Heap) : KC k 19 c3 σ h (fun x σ h => G x (σ 4) h) = n3 k G (σ 5) h := by kernel_rfl
noncomputable def c4 : Code := cL c2
noncomputable def c5 : Code := cR c4
noncomputable def c6 : Code := cL c5
noncomputable def c7 : Code := cL c6
noncomputable def c8 : Code := cR c7
noncomputable def c9 : Code := cR c8
@[simp] def n9 {R : Type} (k : Nat) (G : KT5 R) (v0 v3 v4 v5 v6 : GV) (h : Heap) : Option R := (kbin .add v6 (.int .i64 1)).bind fun v12 => G .nrm v0 v3 v4 v5 v12 h
theorem n9_eq (G : KT5 R) (σ : GS) (h : Heap) : KC k 19 c9 σ h (fun x σ h => G x (σ 0) (σ 3) (σ 4) (σ 5) (σ 6) h) = n9 k G (σ 0) (σ 3) (σ 4) (σ 5) (σ 6) h := by kernel_rfl
noncomputable def c10 : Code := cL c8
noncomputable def c11 : Code := cL c10
@[simp] def n11 {R : Type} (k : Nat) (G : KT5 R) (v0 v3 v4 v5 v6 : GV) (h : Heap) : Option R := (kloadA 5 h v3).bind fun v14 => (kN NN fn.spec_l4Blank [v14] h).bind fun v15 => (gfill (fun i => some (i * 7, 7)) (zeros [(.int .i64 0), (.int .i64 0), (.int .i64 0), (.bool false), (.bool false), (.bool false), (.int .i64 0)] 1) [(0, v15)]).bind fun c => kbs 1 7 c h fun v16 h => (kapp [(.int .i64 0), (.int .i64 0), (.int .i64 0), (.bool false), (.bool false), (.bool false), (.int .i64 0)] 7 40 v5 v16 h).bind fun r => kr r fun v17 h => G .nrm v0 v3 v4 v17 v6 h
theorem n11_eq (G : KT5 R) (σ : GS) (h : Heap) : KC k 19 c11 σ h (fun x σ h => G x (σ 0) (σ 3) (σ 4) (σ 5) (σ 6) h) = n11 k G (σ 0) (σ 3) (σ 4) (σ 5) (σ 6) h := by kernel_rfl
@[simp] def n10 (G : KT5 R) (v0 v3 v4 v5 v6 : GV) (h : Heap) : Option R := n11 k (fun x v0 v3 v4 v5 v6 h => kb 1 x fun x => G x v0 v3 v4 v5 v6 h) v0 v3 v4 v5 v6 h
theorem n10_eq (G : KT5 R) (σ : GS) (h : Heap) : KC k 19 c10 σ h (fun x σ h => G x (σ 0) (σ 3) (σ 4) (σ 5) (σ 6) h) = n10 k G (σ 0) (σ 3) (σ 4) (σ 5) (σ 6) h := (kblock_eq (a := c11) rfl).trans (n11_eq k (fun x v0 v3 v4 v5 v6 h => kb 1 x fun x => G x v0 v3 v4 v5 v6 h) σ h)
@[simp] def n8 (G : KT5 R) (v0 v3 v4 v5 v6 : GV) (h : Heap) : Option R := n10 k (fun x v0 v3 v4 v5 v6 h => kx x (n9 k G v0 v3 v4 v5 v6 h) (G x v0 v3 v4 v5 v6 h)) v0 v3 v4 v5 v6 h
theorem n8_eq (G : KT5 R) (σ : GS) (h : Heap) : KC k 19 c8 σ h (fun x σ h => G x (σ 0) (σ 3) (σ 4) (σ 5) (σ 6) h) = n8 k G (σ 0) (σ 3) (σ 4) (σ 5) (σ 6) h := (kseq (b := c9) rfl (fun σ h => n9_eq k G σ h)).trans (n10_eq k (fun x v0 v3 v4 v5 v6 h => kx x (n9 k G v0 v3 v4 v5 v6 h) (G x v0 v3 v4 v5 v6 h)) σ h)
noncomputable def c12 : Code := cL c7
@[simp] def n7 (G : KT5 R) (v0 v3 v4 v5 v6 : GV) (h : Heap) : Option R := (kbin .lss v6 v0).bind fun v10 => kcond v10 (n8 k G v0 v3 v4 v5 v6 h) (G (.ext 0) v0 v3 v4 v5 v6 h)
theorem n7_eq (G : KT5 R) (σ : GS) (h : Heap) : KC k 19 c7 σ h (fun x σ h => G x (σ 0) (σ 3) (σ 4) (σ 5) (σ 6) h) = n7 k G (σ 0) (σ 3) (σ 4) (σ 5) (σ 6) h := (kseq (a := c12) (b := c8) rfl (fun σ h => n8_eq k G σ h)).trans (by kernel_rfl)
def l6 {R : Type} (k : Nat) (G : KT2 R) : Nat → GV → GV → GV → GV → GV → Heap → Option R
  | 0, _, _, _, _, _, _ => none
  | r + 1, v0, v3, v4, v5, v6, h => n7 k (fun x v0 v3 v4 v5 v6 h => kx x (l6 k G r v0 v3 v4 v5 v6 h) (G x v4 v5 h)) v0 v3 v4 v5 v6 h
theorem l6_eq {R : Type} (k : Nat) (G : KT2 R) : ∀ (r : Nat) (σ : GS) (h : Heap), kloop (fun σ h K => KC k 19 c7 σ h K) r σ h (fun x σ h => G x (σ 4) (σ 5) h) = l6 k G r (σ 0) (σ 3) (σ 4) (σ 5) (σ 6) h
  | 0, _, _ => rfl
  | r + 1, σ, h => (kloop_eq (fun σ h => l6_eq k G r σ h)).trans (n7_eq k (fun x v0 v3 v4 v5 v6 h => kx x (l6 k G r v0 v3 v4 v5 v6 h) (G x v4 v5 h)) σ h)
@[simp] def n6 (G : KT2 R) (v0 v3 v4 v5 v6 : GV) (h : Heap) : Option R := l6 k G k v0 v3 v4 v5 v6 h
theorem n6_eq (G : KT2 R) (σ : GS) (h : Heap) : KC k 19 c6 σ h (fun x σ h => G x (σ 4) (σ 5) h) = n6 k G (σ 0) (σ 3) (σ 4) (σ 5) (σ 6) h := (kloopc_eq (a := c7) rfl).trans (l6_eq k G k σ h)
@[simp] def n5 (G : KT2 R) (v0 v3 v4 v5 v6 : GV) (h : Heap) : Option R := n6 k (fun x v4 v5 h => kb 0 x fun x => G x v4 v5 h) v0 v3 v4 v5 v6 h
theorem n5_eq (G : KT2 R) (σ : GS) (h : Heap) : KC k 19 c5 σ h (fun x σ h => G x (σ 4) (σ 5) h) = n5 k G (σ 0) (σ 3) (σ 4) (σ 5) (σ 6) h := (kblock_eq (a := c6) rfl).trans (n6_eq k (fun x v4 v5 h => kb 0 x fun x => G x v4 v5 h) σ h)
noncomputable def c13 : Code := cL c4
@[simp] def n4 (G : KT2 R) (v0 v3 v4 v5 : GV) (h : Heap) : Option R := n5 k G v0 v3 v4 v5 (.int .i64 0) h
theorem n4_eq (G : KT2 R) (σ : GS) (h : Heap) : KC k 19 c4 σ h (fun x σ h => G x (σ 4) (σ 5) h) = n4 k G (σ 0) (σ 3) (σ 4) (σ 5) h := (kseq (a := c13) (b := c5) rfl (fun σ h => n5_eq k G σ h)).trans (by kernel_rfl)
@[simp] def n2 (G : KT1 R) (v0 v3 v4 v5 : GV) (h : Heap) : Option R := n4 k (fun x v4 v5 h => kx x (n3 k G v5 h) (G x v4 h)) v0 v3 v4 v5 h
theorem n2_eq (G : KT1 R) (σ : GS) (h : Heap) : KC k 19 c2 σ h (fun x σ h => G x (σ 4) h) = n2 k G (σ 0) (σ 3) (σ 4) (σ 5) h := (kseq (b := c3) rfl (fun σ h => n3_eq k G σ h)).trans (n4_eq k (fun x v4 v5 h => kx x (n3 k G v5 h) (G x v4 h)) σ h)
noncomputable def c14 : Code := cL c1
@[simp] def n1 (G : KT1 R) (v0 v3 v4 : GV) (h : Heap) : Option R := n2 k G v0 v3 v4 .emp h
theorem n1_eq (G : KT1 R) (σ : GS) (h : Heap) : KC k 19 c1 σ h (fun x σ h => G x (σ 4) h) = n1 k G (σ 0) (σ 3) (σ 4) h := (kseq (a := c14) (b := c2) rfl (fun σ h => n2_eq k G σ h)).trans (by kernel_rfl)
noncomputable def c15 : Code := cL c0
@[simp] def n0 (G : KT1 R) (v0 v1 : GV) (h : Heap) : Option R := kbox v1 h fun v3 h => n1 k G v0 v3 .nils h
theorem n0_eq (G : KT1 R) (σ : GS) (h : Heap) : KC k 19 c0 σ h (fun x σ h => G x (σ 4) h) = n0 k G (σ 0) (σ 1) h := (kseq (a := c15) (b := c1) rfl (fun σ h => n1_eq k G σ h)).trans (by kernel_rfl)
def run {R : Type} (k : Nat) (a0 : GV) (a1 : GV) (h : Heap) (fin : GV → Heap → Option R) : Option R := n0 k (fun x v4 h => kend x (fin v4 h)) a0 a1 h
theorem run_eq {R : Type} (k : Nat) (a0 : GV) (a1 : GV) (h : Heap) (fin : GV → Heap → Option R) : kfun PP cfg NN HH k fn.spec_l4Row [a0, a1] h fin = run k a0 a1 h fin := (kfun_eq (nt := 19) (c := c0) (show PP.funcs[fn.spec_l4Row]? = some Try.f67 by kernel_rfl) (by kernel_rfl) (by kernel_rfl) (fun x σ h => by cases x <;> kernel_rfl)).trans (n0_eq k (fun x v4 h => kend x (fin v4 h)) _ h)
theorem gives {k : Nat} {a0 : GV} {a1 : GV} {b : Nat} {q : GV × List (List GV)} (e : run k a0 a1 [] (finO b) = some q) : OO fn.spec_l4Row [a0, a1] b = some q := oω_of ((run_eq k a0 a1 [] (finO b)).trans e)
end S.spec_l4Row
/-! impl_Blank -/
namespace S.impl_Blank
noncomputable def c0 : Code := bodyOf Try.f68
noncomputable def c1 : Code := cR c0
noncomputable def c2 : Code := cR c1
@[simp] def n2 {R : Type} (k : Nat) (G : KT1 R) (v0 v3 : GV) (h : Heap) : Option R := (kloadA 5 h v3).bind fun v13 => (kN NN fn.impl_blank [v13] h).bind fun v14 => (gfill (fun i => some (i * 7, 7)) (zeros [(.int .i64 0), (.int .i64 0), (.int .i64 0), (.bool false), (.bool false), (.bool false), (.int .i64 0)] 1) [(0, v14)]).bind fun c => kbs 1 7 c h fun v15 h => (kF false HH fn.slices_Repeat_impl_Cell [v15, v0] h).bind fun r => kr r fun v17 h => G .ret v17 h
theorem n2_eq (G : KT1 R) (σ : GS) (h : Heap) : KC k 18 c2 σ h (fun x σ h => G x (σ 4) h) = n2 k G (σ 0) (σ 3) h := by kernel_rfl
noncomputable def c3 : Code := cL c1
noncomputable def c4 : Code := cR c3
@[simp] def n4 {R : Type} (k : Nat) (G : KT3 R) (v0 v3 v4 v12 : GV) (h : Heap) : Option R := kcond v12 (G .ret v0 v3 .nils h) (G .nrm v0 v3 v4 h)
theorem n4_eq (G : KT3 R) (σ : GS) (h : Heap) : KC k 18 c4 σ h (fun x σ h => G x (σ 0) (σ 3) (σ 4) h) = n4 k G (σ 0) (σ 3) (σ 4) (σ 12) h := by kernel_rfl
noncomputable def c5 : Code := cL c3
noncomputable def o5 : Array Oper := cO c5
@[simp] def g5_2 {R : Type} (k : Nat) (G : KT4 R) (v0 v3 v4 v8 v11 : GV) (h : Heap) : Option R := (kpick v8 (.bool true) v11).bind fun v12 => G .nrm v0 v3 v4 v12 h
theorem g5_2_eq (G : KT4 R) (σ : GS) (h : Heap) : kgroups PP cfg NN HH 18 o5 [(none, [7])] σ h (fun σ h => G .nrm (σ 0) (σ 3) (σ 4) (σ 12) h) = g5_2 k G (σ 0) (σ 3) (σ 4) (σ 8) (σ 11) h := by kernel_rfl
@[simp] def g5_1 (G : KT4 R) (v0 v3 v4 v8 : GV) (h : Heap) : Option R := bif tr false v8 then (kloadA 5 h v3).bind fun v9 => (kN NN fn.impl_StyleOk [v9] h).bind fun v10 => (kun .not v10).bind fun v11 => g5_2 k G v0 v3 v4 v8 v11 h else g5_2 k G v0 v3 v4 v8 .un h
theorem g5_1_eq (G : KT4 R) (σ : GS) (h : Heap) : kgroups PP cfg NN HH 18 o5 [(some (3, false), [4, 5, 6]), (none, [7])] σ h (fun σ h => G .nrm (σ 0) (σ 3) (σ 4) (σ 12) h) = g5_1 k G (σ 0) (σ 3) (σ 4) (σ 8) h := (kgroups_cons (fun σ h => g5_2_eq k G σ h)).trans (by kernel_rfl)
@[simp] def g5_0 (G : KT4 R) (v0 v3 v4 : GV) (h : Heap) : Option R := (kN NN fn.impl_in [v0, (.int .i64 1), (.int .i64 60)] h).bind fun v6 => (kun .not v6).bind fun v7 => g5_1 k G v0 v3 v4 v7 h
theorem g5_0_eq (G : KT4 R) (σ : GS) (h : Heap) : kgroups PP cfg NN HH 18 o5 [(none, [0, 1, 2, 3]), (some (3, false), [4, 5, 6]), (none, [7])] σ h (fun σ h => G .nrm (σ 0) (σ 3) (σ 4) (σ 12) h) = g5_0 k G (σ 0) (σ 3) (σ 4) h := (kgroups_cons (fun σ h => g5_1_eq k G σ h)).trans (by kernel_rfl)
@[simp] def n5 (G : KT4 R) (v0 v3 v4 : GV) (h : Heap) : Option R := g5_0 k G v0 v3 v4 h
theorem n5_eq (G : KT4 R) (σ : GS) (h : Heap) : KC k 18 c5 σ h (fun x σ h => G x (σ 0) (σ 3) (σ 4) (σ 12) h) = n5 k G (σ 0) (σ 3) (σ 4) h := (kregion_eq (id := 1) (draw := false) (ops := o5) (gs := [(none, [0, 1, 2, 3]), (some (3, false), [4, 5, 6]), (none, [7])]) (by kernel_rfl) (by kernel_rfl) (by kernel_rfl)).trans (g5_0_eq k G σ h)
@[simp] def n3 (G : KT3 R) (v0 v3 v4 : GV) (h : Heap) : Option R := n5 k (fun x v0 v3 v4 v12 h => kx x (n4 k G v0 v3 v4 v12 h) (G x v0 v3 v4 h)) v0 v3 v4 h
theorem n3_eq (G : KT3 R) (σ : GS) (h : Heap) : KC k 18 c3 σ h (fun x σ h => G x (σ 0) (σ 3) (σ 4) h) = n3 k G (σ 0) (σ 3) (σ 4) h := (kseq (b := c4) rfl (fun σ h => n4_eq k G σ h)).trans (n5_eq k (fun x v0 v3 v4 v12 h => kx x (n4 k G v0 v3 v4 v12 h) (G x v0 v3 v4 h)) σ h)
@[simp] def n1 (G : KT1 R) (v0 v3 v4 : GV) (h : Heap) : Option R := n3 k (fun x v0 v3 v4 h => kx x (n2 k G v0 v3 h) (G x v4 h)) v0 v3 v4 h
theorem n1_eq (G : KT1 R) (σ : GS) (h : Heap) : KC k 18 c1 σ h (fun x σ h => G x (σ 4) h) = n1 k G (σ 0) (σ 3) (σ 4) h := (kseq (b := c2) rfl (fun σ h => n2_eq k G σ h)).trans (n3_eq k (fun x v0 v3 v4 h => kx x (n2 k G v0 v3 h) (G x v4 h)) σ h)
noncomputable def c6 : Code := cL c0
@[simp] def n0 (G : KT1 R) (v0 v1 : GV) (h : Heap) : Option R := kbox v1 h fun v3 h => n1 k G v0 v3 .nils h
theorem n0_eq (G : KT1 R) (σ : GS) (h : Heap) : KC k 18 c0 σ h (fun x σ h => G x (σ 4) h) = n0 k G (σ 0) (σ 1) h := (kseq (a := c6) (b := c1) rfl (fun σ h => n1_eq k G σ h)).trans (by kernel_rfl)
def run {R : Type} (k : Nat) (a0 : GV) (a1 : GV) (h : Heap) (fin : GV → Heap → Option R) : Option R := n0 k (fun x v4 h => kend x (fin v4 h)) a0 a1 h
theorem run_eq {R : Type} (k : Nat) (a0 : GV) (a1 : GV) (h : Heap) (fin : GV → Heap → Option R) : kfun PP cfg NN HH k fn.impl_Blank [a0, a1] h fin = run k a0 a1 h fin := (kfun_eq (nt := 18) (c := c0) (show PP.funcs[fn.impl_Blank]? = some Try.f68 by kernel_rfl) (by kernel_rfl) (by kernel_rfl) (fun x σ h => by cases x <;> kernel_rfl)).trans (n0_eq k (fun x v4 h => kend x (fin v4 h)) _ h)
theorem gives {k : Nat} {a0 : GV} {a1 : GV} {b : Nat} {q : GV × List (List GV)} (e : run k a0 a1 [] (finO b) = some q) : OO fn.impl_Blank [a0, a1] b = some q := oω_of ((run_eq k a0 a1 [] (finO b)).trans e)
end S.impl_Blank
/-! slices_Clone_impl_Cell -/
namespace S.slices_Clone_impl_Cell
noncomputable def c0 : Code := bodyOf Try.f69
@[simp] def n0 {R : Type} (k : Nat) (G : KT1 R) (v0 : GV) (h : Heap) : Option R := (gbinop PP .eql 101 (.tmp 3) (.const (.slice none 0 0)) v0 .nils).bind fun v4 => kcond v4 (G .ret .nils h) ((kapp [(.int .i64 0), (.int .i64 0), (.int .i64 0), (.bool false), (.bool false), (.bool false), (.int .i64 0)] 7 40 .emp v0 h).bind fun r => kr r fun v7 h => G .ret v7 h)
theorem n0_eq (G : KT1 R) (σ : GS) (h : Heap) : KC k 8 c0 σ h (fun x σ h => G x (σ 2) h) = n0 k G (σ 0) h := by kernel_rfl
def run {R : Type} (k : Nat) (a0 : GV) (h : Heap) (fin : GV → Heap → Option R) : Option R := n0 k (fun x v2 h => kend x (fin v2 h)) a0 h
theorem run_eq {R : Type} (k : Nat) (a0 : GV) (h : Heap) (fin : GV → Heap → Option R) : kfun PP cfg NN HH k fn.slices_Clone_impl_Cell [a0] h fin = run k a0 h fin := (kfun_eq (nt := 8) (c := c0) (show PP.funcs[fn.slices_Clone_impl_Cell]? = some Try.f69 by kernel_rfl) (by kernel_rfl) (by kernel_rfl) (fun x σ h => by cases x <;> kernel_rfl)).trans (n0_eq k (fun x v2 h => kend x (fin v2 h)) _ h)
theorem gives {k : Nat} {a0 : GV} {b : Nat} {q : GV × List (List GV)} (e : run k a0 [] (finO b) = some q) : OO fn.slices_Clone_impl_Cell [a0] b = some q := oω_of ((run_eq k a0 [] (finO b)).trans e)
end S.slices_Clone_impl_Cell
/-! spec_l4Blank -/
namespace S.spec_l4Blank
noncomputable def c0 : Code := bodyOf Try.f75
@[simp] def n0 {R : Type} (k : Nat) (G : KT1 R) (v0 : GV) (h : Heap) : Option R := kbox v0 h fun v1 h => kalloc [(.int .i64 0), (.int .i64 0), (.int .i64 0), (.bool false), (.bool false), (.bool false), (.int .i64 0)] h fun v2 h => (kloadA 5 h v1).bind fun v3 => (gfill (fun i => [(0, 1), (1, 5), (6, 1)][i]?) [(.int .i64 0), (.int .i64 0), (.int .i64 0), (.bool false), (.bool false), (.bool false), (.int .i64 0)] [(0, (.int .i64 32)), (1, v3)]).bind fun c => kagg c h fun v4 h => (kstore 7 h v2 v4).bind fun h => G .ret v2 h
theorem n0_eq (G : KT1 R) (σ : GS) (h : Heap) : KC k 5 c0 σ h (fun x σ h => G x (σ 2) h) = n0 k G (σ 0) h := by kernel_rfl
def run {R : Type} (k : Nat) (a0 : GV) (h : Heap) (fin : GV → Heap → Option R) : Option R := n0 k (fun x v2 h => kend x ((kloadA 7 h v2).bind fun w2 => fin w2 h)) a0 h
theorem run_eq {R : Type} (k : Nat) (a0 : GV) (h : Heap) (fin : GV → Heap → Option R) : kfun PP cfg NN HH k fn.spec_l4Blank [a0] h fin = run k a0 h fin := (kfun_eq (nt := 5) (c := c0) (show PP.funcs[fn.spec_l4Blank]? = some Try.f75 by kernel_rfl) (by kernel_rfl) (by kernel_rfl) (fun x σ h => by cases x <;> kernel_rfl)).trans (n0_eq k (fun x v2 h => kend x ((kloadA 7 h v2).bind fun w2 => fin w2 h)) _ h)
theorem gives {k : Nat} {a0 : GV} {v : GV} (e : run k a0 [] finN = some v) : NN fn.spec_l4Blank [a0] = some v := nω_of (by kernel_rfl) ((run_eq k a0 [] finN).trans e)
end S.spec_l4Blank
/-! impl_StyleOk -/
namespace S.impl_StyleOk
noncomputable def c0 : Code := bodyOf Try.f76
noncomputable def c1 : Code := cR c0
noncomputable def c2 : Code := cR c1
@[simp] def n2 {R : Type} (k : Nat) (G : KT1 R) (v2 : GV) (h : Heap) : Option R := G .ret v2 h
theorem n2_eq (G : KT1 R) (σ : GS) (h : Heap) : KC k 11 c2 σ h (fun x σ h => G x (σ 2) h) = n2 k G (σ 2) h := by kernel_rfl
noncomputable def c3 : Code := cL c1
noncomputable def o3 : Array Oper := cO c3
@[simp] def g3_2 {R : Type} (k : Nat) (G : KT1 R) (v6 v9 : GV) (h : Heap) : Option R := (kpick v6 v9 (.bool false)).bind fun v10 => G .nrm v10 h
theorem g3_2_eq (G : KT1 R) (σ : GS) (h : Heap) : kgroups PP cfg NN HH 11 o3 [(none, [7, 8])] σ h (fun σ h => G .nrm (σ 2) h) = g3_2 k G (σ 6) (σ 9) h := by kernel_rfl
@[simp] def g3_1 (G : KT1 R) (v1 v6 : GV) (h : Heap) : Option R := bif tr true v6 then (kfa 1 v1).bind fun v7 => (kload1 h v7).bind fun v8 => (kN NN fn.impl_in [v8, (.int .i64 0), (.int .i64 8)] h).bind fun v9 => g3_2 k G v6 v9 h else g3_2 k G v6 .un h
theorem g3_1_eq (G : KT1 R) (σ : GS) (h : Heap) : kgroups PP cfg NN HH 11 o3 [(some (3, true), [4, 5, 6]), (none, [7, 8])] σ h (fun σ h => G .nrm (σ 2) h) = g3_1 k G (σ 1) (σ 6) h := (kgroups_cons (fun σ h => g3_2_eq k G σ h)).trans (by kernel_rfl)
@[simp] def g3_0 (G : KT1 R) (v1 : GV) (h : Heap) : Option R := (kfa 0 v1).bind fun v3 => (kload1 h v3).bind fun v4 => (kN NN fn.impl_in [v4, (.int .i64 0), (.int .i64 8)] h).bind fun v5 => g3_1 k G v1 v5 h
theorem g3_0_eq (G : KT1 R) (σ : GS) (h : Heap) : kgroups PP cfg NN HH 11 o3 [(none, [0, 1, 2, 3]), (some (3, true), [4, 5, 6]), (none, [7, 8])] σ h (fun σ h => G .nrm (σ 2) h) = g3_0 k G (σ 1) h := (kgroups_cons (fun σ h => g3_1_eq k G σ h)).trans (by kernel_rfl)
@[simp] def n3 (G : KT1 R) (v1 : GV) (h : Heap) : Option R := g3_0 k G v1 h
theorem n3_eq (G : KT1 R) (σ : GS) (h : Heap) : KC k 11 c3 σ h (fun x σ h => G x (σ 2) h) = n3 k G (σ 1) h := (kregion_eq (id := 1) (draw := false) (ops := o3) (gs := [(none, [0, 1, 2, 3]), (some (3, true), [4, 5, 6]), (none, [7, 8])]) (by kernel_rfl) (by kernel_rfl) (by kernel_rfl)).trans (g3_0_eq k G σ h)
@[simp] def n1 (G : KT1 R) (v1 : GV) (h : Heap) : Option R := n3 k (fun x v2 h => kx x (n2 k G v2 h) (G x v2 h)) v1 h
theorem n1_eq (G : KT1 R) (σ : GS) (h : Heap) : KC k 11 c1 σ h (fun x σ h => G x (σ 2) h) = n1 k G (σ 1) h := (kseq (b := c2) rfl (fun σ h => n2_eq k G σ h)).trans (n3_eq k (fun x v2 h => kx x (n2 k G v2 h) (G x v2 h)) σ h)
noncomputable def c4 : Code := cL c0
@[simp] def n0 (G : KT1 R) (v0 : GV) (h : Heap) : Option R := kbox v0 h fun v1 h => n1 k G v1 h
theorem n0_eq (G : KT1 R) (σ : GS) (h : Heap) : KC k 11 c0 σ h (fun x σ h => G x (σ 2) h) = n0 k G (σ 0) h := (kseq (a := c4) (b := c1) rfl (fun σ h => n1_eq k G σ h)).trans (by kernel_rfl)
def run {R : Type} (k : Nat) (a0 : GV) (h : Heap) (fin : GV → Heap → Option R) : Option R := n0 k (fun x v2 h => kend x (fin v2 h)) a0 h
theorem run_eq {R : Type} (k : Nat) (a0 : GV) (h : Heap) (fin : GV → Heap → Option R) : kfun PP cfg NN HH k fn.impl_StyleOk [a0] h fin = run k a0 h fin := (kfun_eq (nt := 11) (c := c0) (show PP.funcs[fn.impl_StyleOk]? = some Try.f76 by kernel_rfl) (by kernel_rfl) (by kernel_rfl) (fun x σ h => by cases x <;> kernel_rfl)).trans (n0_eq k (fun x v2 h => kend x (fin v2 h)) _ h)
theorem gives {k : Nat} {a0 : GV} {v : GV} (e : run k a0 [] finN = some v) : NN fn.impl_StyleOk [a0] = some v := nω_of (by kernel_rfl) ((run_eq k a0 [] finN).trans e)
end S.impl_StyleOk
/-! slices_Repeat_impl_Cell -/
namespace S.slices_Repeat_impl_Cell
noncomputable def c0 : Code := bodyOf Try.f77
noncomputable def c1 : Code := cR c0
noncomputable def c2 : Code := cR c1
noncomputable def c3 : Code := cR c2
noncomputable def c4 : Code := cR c3
noncomputable def c5 : Code := cR c4
noncomputable def c6 : Code := cR c5
noncomputable def c7 : Code := cR c6
@[simp] def n7 {R : Type} (k : Nat) (G : KT1 R) (v7 : GV) (h : Heap) : Option R := G .ret v7 h
theorem n7_eq (G : KT1 R) (σ : GS) (h : Heap) : KC k 48 c7 σ h (fun x σ h => G x (σ 4) h) = n7 k G (σ 7) h := by kernel_rfl
noncomputable def c8 : Code := cL c6
noncomputable def c9 : Code := cL c8
noncomputable def c10 : Code := cL c9
noncomputable def c11 : Code := cR c10
noncomputable def c12 : Code := cL c11
@[simp] def n12 {R : Type} (k : Nat) (G : KT3 R) (v4 v7 v8 : GV) (h : Heap) : Option R := (ksl 7 v7 (some v8) none none).bind fun v41 => (ksl 7 v7 none (some v8) none).bind fun v44 => (kcopy 7 v41 v44 h).bind fun r => kr r fun v45 h => (kbin .add v8 v45).bind fun v46 => G .nrm v4 v7 v46 h
theorem n12_eq (G : KT3 R) (σ : GS) (h : Heap) : KC k 48 c12 σ h (fun x σ h => G x (σ 4) (σ 7) (σ 8) h) = n12 k G (σ 4) (σ 7) (σ 8) h := by kernel_rfl
@[simp] def n11 (G : KT3 R) (v4 v7 v8 : GV) (h : Heap) : Option R := n12 k (fun x v4 v7 v8 h => kb 1 x fun x => G x v4 v7 v8 h) v4 v7 v8 h
theorem n11_eq (G : KT3 R) (σ : GS) (h : Heap) : KC k 48 c11 σ h (fun x σ h => G x (σ 4) (σ 7) (σ 8) h) = n11 k G (σ 4) (σ 7) (σ 8) h := (kblock_eq (a := c12) rfl).trans (n12_eq k (fun x v4 v7 v8 h => kb 1 x fun x => G x v4 v7 v8 h) σ h)
noncomputable def c13 : Code := cL c10
@[simp] def n10 (G : KT3 R) (v4 v7 v8 : GV) (h : Heap) : Option R := (klen v7).bind fun v36 => (kbin .lss v8 v36).bind fun v37 => kcond v37 (n11 k G v4 v7 v8 h) (G (.ext 0) v4 v7 v8 h)
theorem n10_eq (G : KT3 R) (σ : GS) (h : Heap) : KC k 48 c10 σ h (fun x σ h => G x (σ 4) (σ 7) (σ 8) h) = n10 k G (σ 4) (σ 7) (σ 8) h := (kseq (a := c13) (b := c11) rfl (fun σ h => n11_eq k G σ h)).trans (by kernel_rfl)
def l9 {R : Type} (k : Nat) (G : KT2 R) : Nat → GV → GV → GV → Heap → Option R
  | 0, _, _, _, _ => none
  | r + 1, v4, v7, v8, h => n10 k (fun x v4 v7 v8 h => kx x (l9 k G r v4 v7 v8 h) (G x v4 v7 h)) v4 v7 v8 h
theorem l9_eq {R : Type} (k : Nat) (G : KT2 R) : ∀ (r : Nat) (σ : GS) (h : Heap), kloop (fun σ h K => KC k 48 c10 σ h K) r σ h (fun x σ h => G x (σ 4) (σ 7) h) = l9 k G r (σ 4) (σ 7) (σ 8) h
  | 0, _, _ => rfl
  | r + 1, σ, h => (kloop_eq (fun σ h => l9_eq k G r σ h)).trans (n10_eq k (fun x v4 v7 v8 h => kx x (l9 k G r v4 v7 v8 h) (G x v4 v7 h)) σ h)
@[simp] def n9 (G : KT2 R) (v4 v7 v8 : GV) (h : Heap) : Option R := l9 k G k v4 v7 v8 h
theorem n9_eq (G : KT2 R) (σ : GS) (h : Heap) : KC k 48 c9 σ h (fun x σ h => G x (σ 4) (σ 7) h) = n9 k G (σ 4) (σ 7) (σ 8) h := (kloopc_eq (a := c10) rfl).trans (l9_eq k G k σ h)
@[simp] def n8 (G : KT2 R) (v4 v7 v8 : GV) (h : Heap) : Option R := n9 k (fun x v4 v7 h => kb 0 x fun x => G x v4 v7 h) v4 v7 v8 h
theorem n8_eq (G : KT2 R) (σ : GS) (h : Heap) : KC k 48 c8 σ h (fun x σ h => G x (σ 4) (σ 7) h) = n8 k G (σ 4) (σ 7) (σ 8) h := (kblock_eq (a := c9) rfl).trans (n9_eq k (fun x v4 v7 h => kb 0 x fun x => G x v4 v7 h) σ h)
@[simp] def n6 (G : KT1 R) (v4 v7 v8 : GV) (h : Heap) : Option R := n8 k (fun x v4 v7 h => kx x (n7 k G v7 h) (G x v4 h)) v4 v7 v8 h
theorem n6_eq (G : KT1 R) (σ : GS) (h : Heap) : KC k 48 c6 σ h (fun x σ h => G x (σ 4) h) = n6 k G (σ 4) (σ 7) (σ 8) h := (kseq (b := c7) rfl (fun σ h => n7_eq k G σ h)).trans (n8_eq k (fun x v4 v7 h => kx x (n7 k G v7 h) (G x v4 h)) σ h)
noncomputable def c14 : Code := cL c5
@[simp] def n5 (G : KT1 R) (v0 v4 v7 : GV) (h : Heap) : Option R := (kcopy 7 v7 v0 h).bind fun r => kr r fun v33 h => n6 k G v4 v7 v33 h
theorem n5_eq (G : KT1 R) (σ : GS) (h : Heap) : KC k 48 c5 σ h (fun x σ h => G x (σ 4) h) = n5 k G (σ 0) (σ 4) (σ 7) h := (kseq (a := c14) (b := c6) rfl (fun σ h => n6_eq k G σ h)).trans (by kernel_rfl)
noncomputable def c15 : Code := cL c4
@[simp] def n4 (G : KT1 R) (v0 v4 v6 : GV) (h : Heap) : Option R := (kconvI .i64 v6).bind fun v29 => (kmake [(.int .i64 0), (.int .i64 0), (.int .i64 0), (.bool false), (.bool false), (.bool false), (.int .i64 0)] 7 40 v29 v29 h).bind fun r => kr r fun v30 h => n5 k G v0 v4 v30 h
theorem n4_eq (G : KT1 R) (σ : GS) (h : Heap) : KC k 48 c4 σ h (fun x σ h => G x (σ 4) h) = n4 k G (σ 0) (σ 4) (σ 6) h := (kseq (a := c15) (b := c5) rfl (fun σ h => n5_eq k G σ h)).trans (by kernel_rfl)
noncomputable def c16 : Code := cL c3
noncomputable def c17 : Code := cR c16
@[simp] def n17 {R : Type} (k : Nat) (G : KT3 R) (v0 v4 v6 v26 : GV) (h : Heap) : Option R := kcond v26 (none) (G .nrm v0 v4 v6 h)
theorem n17_eq (G : KT3 R) (σ : GS) (h : Heap) : KC k 48 c17 σ h (fun x σ h => G x (σ 0) (σ 4) (σ 6) h) = n17 k G (σ 0) (σ 4) (σ 6) (σ 26) h := by kernel_rfl
noncomputable def c18 : Code := cL c16
noncomputable def o18 : Array Oper := cO c18
@[simp] def g18_2 {R : Type} (k : Nat) (G : KT4 R) (v0 v4 v6 v23 v25 : GV) (h : Heap) : Option R := (kpick v23 (.bool true) v25).bind fun v26 => G .nrm v0 v4 v6 v26 h
theorem g18_2_eq (G : KT4 R) (σ : GS) (h : Heap) : kgroups PP cfg NN HH 48 o18 [(none, [5])] σ h (fun σ h => G .nrm (σ 0) (σ 4) (σ 6) (σ 26) h) = g18_2 k G (σ 0) (σ 4) (σ 6) (σ 23) (σ 25) h := by kernel_rfl
@[simp] def g18_1 (G : KT4 R) (v0 v4 v6 v23 : GV) (h : Heap) : Option R := bif tr false v23 then (kbin .gtr v6 (.int .u64 9223372036854775807)).bind fun v25 => g18_2 k G v0 v4 v6 v23 v25 h else g18_2 k G v0 v4 v6 v23 .un h
theorem g18_1_eq (G : KT4 R) (σ : GS) (h : Heap) : kgroups PP cfg NN HH 48 o18 [(some (2, false), [3, 4]), (none, [5])] σ h (fun σ h => G .nrm (σ 0) (σ 4) (σ 6) (σ 26) h) = g18_1 k G (σ 0) (σ 4) (σ 6) (σ 23) h := (kgroups_cons (fun σ h => g18_2_eq k G σ h)).trans (by kernel_rfl)
@[simp] def g18_0 (G : KT4 R) (v0 v4 v5 v6 : GV) (h : Heap) : Option R := (kbin .gtr v5 (.int .u64 0)).bind fun v22 => g18_1 k G v0 v4 v6 v22 h
theorem g18_0_eq (G : KT4 R) (σ : GS) (h : Heap) : kgroups PP cfg NN HH 48 o18 [(none, [0, 1, 2]), (some (2, false), [3, 4]), (none, [5])] σ h (fun σ h => G .nrm (σ 0) (σ 4) (σ 6) (σ 26) h) = g18_0 k G (σ 0) (σ 4) (σ 5) (σ 6) h := (kgroups_cons (fun σ h => g18_1_eq k G σ h)).trans (by kernel_rfl)
@[simp] def n18 (G : KT4 R) (v0 v4 v5 v6 : GV) (h : Heap) : Option R := g18_0 k G v0 v4 v5 v6 h
theorem n18_eq (G : KT4 R) (σ : GS) (h : Heap) : KC k 48 c18 σ h (fun x σ h => G x (σ 0) (σ 4) (σ 6) (σ 26) h) = n18 k G (σ 0) (σ 4) (σ 5) (σ 6) h := (kregion_eq (id := 4) (draw := false) (ops := o18) (gs := [(none, [0, 1, 2]), (some (2, false), [3, 4]), (none, [5])]) (by kernel_rfl) (by kernel_rfl) (by kernel_rfl)).trans (g18_0_eq k G σ h)
@[simp] def n16 (G : KT3 R) (v0 v4 v5 v6 : GV) (h : Heap) : Option R := n18 k (fun x v0 v4 v6 v26 h => kx x (n17 k G v0 v4 v6 v26 h) (G x v0 v4 v6 h)) v0 v4 v5 v6 h
theorem n16_eq (G : KT3 R) (σ : GS) (h : Heap) : KC k 48 c16 σ h (fun x σ h => G x (σ 0) (σ 4) (σ 6) h) = n16 k G (σ 0) (σ 4) (σ 5) (σ 6) h := (kseq (b := c17) rfl (fun σ h => n17_eq k G σ h)).trans (n18_eq k (fun x v0 v4 v6 v26 h => kx x (n17 k G v0 v4 v6 v26 h) (G x v0 v4 v6 h)) σ h)
@[simp] def n3 (G : KT1 R) (v0 v4 v5 v6 : GV) (h : Heap) : Option R := n16 k (fun x v0 v4 v6 h => kx x (n4 k G v0 v4 v6 h) (G x v4 h)) v0 v4 v5 v6 h
theorem n3_eq (G : KT1 R) (σ : GS) (h : Heap) : KC k 48 c3 σ h (fun x σ h => G x (σ 4) h) = n3 k G (σ 0) (σ 4) (σ 5) (σ 6) h := (kseq (b := c4) rfl (fun σ h => n4_eq k G σ h)).trans (n16_eq k (fun x v0 v4 v6 h => kx x (n4 k G v0 v4 v6 h) (G x v4 h)) σ h)
noncomputable def c19 : Code := cL c2
@[simp] def n2 (G : KT1 R) (v0 v1 v4 : GV) (h : Heap) : Option R := (klen v0).bind fun v14 => (kconvI .u64 v14).bind fun v15 => (kconvI .u64 v1).bind fun v17 => (kN NN fn.math_bits_Mul [v15, v17] h).bind fun v18 => (kxt 0 v18).bind fun v19 => (kxt 1 v18).bind fun v20 => n3 k G v0 v4 v19 v20 h
theorem n2_eq (G : KT1 R) (σ : GS) (h : Heap) : KC k 48 c2 σ h (fun x σ h => G x (σ 4) h) = n2 k G (σ 0) (σ 1) (σ 4) h := (kseq (a := c19) (b := c3) rfl (fun σ h => n3_eq k G σ h)).trans (by kernel_rfl)
noncomputable def c20 : Code := cL c1
@[simp] def n1 (G : KT1 R) (v0 v1 v4 : GV) (h : Heap) : Option R := (kbin .lss v1 (.int .i64 0)).bind fun v10 => kcond v10 (none) (n2 k G v0 v1 v4 h)
theorem n1_eq (G : KT1 R) (σ : GS) (h : Heap) : KC k 48 c1 σ h (fun x σ h => G x (σ 4) h) = n1 k G (σ 0) (σ 1) (σ 4) h := (kseq (a := c20) (b := c2) rfl (fun σ h => n2_eq k G σ h)).trans (by kernel_rfl)
noncomputable def c21 : Code := cL c0
@[simp] def n0 (G : KT1 R) (v0 v1 : GV) (h : Heap) : Option R := n1 k G v0 v1 .nils h
theorem n0_eq (G : KT1 R) (σ : GS) (h : Heap) : KC k 48 c0 σ h (fun x σ h => G x (σ 4) h) = n0 k G (σ 0) (σ 1) h := (kseq (a := c21) (b := c1) rfl (fun σ h => n1_eq k G σ h)).trans (by kernel_rfl)
def run {R : Type} (k : Nat) (a0 : GV) (a1 : GV) (h : Heap) (fin : GV → Heap → Option R) : Option R := n0 k (fun x v4 h => kend x (fin v4 h)) a0 a1 h
theorem run_eq {R : Type} (k : Nat) (a0 : GV) (a1 : GV) (h : Heap) (fin : GV → Heap → Option R) : kfun PP cfg NN HH k fn.slices_Repeat_impl_Cell [a0, a1] h fin = run k a0 a1 h fin := (kfun_eq (nt := 48) (c := c0) (show PP.funcs[fn.slices_Repeat_impl_Cell]? = some Try.f77 by kernel_rfl) (by kernel_rfl) (by kernel_rfl) (fun x σ h => by cases x <;> kernel_rfl)).trans (n0_eq k (fun x v4 h => kend x (fin v4 h)) _ h)
theorem gives {k : Nat} {a0 : GV} {a1 : GV} {b : Nat} {q : GV × List (List GV)} (e : run k a0 a1 [] (finO b) = some q) : OO fn.slices_Repeat_impl_Cell [a0, a1] b = some q := oω_of ((run_eq k a0 a1 [] (finO b)).trans e)
end S.slices_Repeat_impl_Cell
/-! impl_blank -/
namespace S.impl_blank
noncomputable def c0 : Code := bodyOf Try.f78
@[simp] def n0 {R : Type} (k : Nat) (G : KT1 R) (v0 : GV) (h : Heap) : Option R := kbox v0 h fun v1 h => kalloc [(.int .i64 0), (.int .i64 0), (.int .i64 0), (.bool false), (.bool false), (.bool false), (.int .i64 0)] h fun v2 h => (kloadA 5 h v1).bind fun v3 => (gfill (fun i => [(0, 1), (1, 5), (6, 1)][i]?) [(.int .i64 0), (.int .i64 0), (.int .i64 0), (.bool false), (.bool false), (.bool false), (.int .i64 0)] [(0, (.int .i64 32)), (1, v3)]).bind fun c => kagg c h fun v4 h => (kstore 7 h v2 v4).bind fun h => G .ret v2 h
theorem n0_eq (G : KT1 R) (σ : GS) (h : Heap) : KC k 5 c0 σ h (fun x σ h => G x (σ 2) h) = n0 k G (σ 0) h := by kernel_rfl
def run {R : Type} (k : Nat) (a0 : GV) (h : Heap) (fin : GV → Heap → Option R) : Option R := n0 k (fun x v2 h => kend x ((kloadA 7 h v2).bind fun w2 => fin w2 h)) a0 h
theorem run_eq {R : Type} (k : Nat) (a0 : GV) (h : Heap) (fin : GV → Heap → Option R) : kfun PP cfg NN HH k fn.impl_blank [a0] h fin = run k a0 h fin := (kfun_eq (nt := 5) (c := c0) (show PP.funcs[fn.impl_blank]? = some Try.f78 by kernel_rfl) (by kernel_rfl) (by kernel_rfl) (fun x σ h => by cases x <;> kernel_rfl)).trans (n0_eq k (fun x v2 h => kend x ((kloadA 7 h v2).bind fun w2 => fin w2 h)) _ h)
theorem gives {k : Nat} {a0 : GV} {v : GV} (e : run k a0 [] finN = some v) : NN fn.impl_blank [a0] = some v := nω_of (by kernel_rfl) ((run_eq k a0 [] finN).trans e)
end S.impl_blank
/-! math_bits_Mul -/
namespace S.math_bits_Mul
noncomputable def c0 : Code := bodyOf Try.f80
@[simp] def n0 {R : Type} (k : Nat) (G : KT2 R) (v0 v1 : GV) (h : Heap) : Option R := kcond (.bool false) ((kconvI .u32 v0).bind fun v12 => (kconvI .u32 v1).bind fun v14 => (kN NN fn.math_bits_Mul32 [v12, v14] h).bind fun v15 => (kxt 0 v15).bind fun v16 => (kxt 1 v15).bind fun v17 => (kconvI .u64 v16).bind fun v19 => (kconvI .u64 v17).bind fun v21 => G .ret v19 v21 h) ((kN NN fn.math_bits_Mul64 [v0, v1] h).bind fun v25 => (kxt 0 v25).bind fun v26 => (kxt 1 v25).bind fun v27 => G .ret v26 v27 h)
theorem n0_eq (G : KT2 R) (σ : GS) (h : Heap) : KC k 30 c0 σ h (fun x σ h => G x (σ 4) (σ 5) h) = n0 k G (σ 0) (σ 1) h := by kernel_rfl
def run {R : Type} (k : Nat) (a0 : GV) (a1 : GV) (h : Heap) (fin : GV → Heap → Option R) : Option R := n0 k (fun x v4 v5 h => kend x (fin (.tup [v4, v5]) h)) a0 a1 h
theorem run_eq {R : Type} (k : Nat) (a0 : GV) (a1 : GV) (h : Heap) (fin : GV → Heap → Option R) : kfun PP cfg NN HH k fn.math_bits_Mul [a0, a1] h fin = run k a0 a1 h fin := (kfun_eq (nt := 30) (c := c0) (show PP.funcs[fn.math_bits_Mul]? = some Try.f80 by kernel_rfl) (by kernel_rfl) (by kernel_rfl) (fun x σ h => by cases x <;> kernel_rfl)).trans (n0_eq k (fun x v4 v5 h => kend x (fin (.tup [v4, v5]) h)) _ h)
theorem gives {k : Nat} {a0 : GV} {a1 : GV} {v : GV} (e : run k a0 a1 [] finN = some v) : NN fn.math_bits_Mul [a0, a1] = some v := nω_of (by kernel_rfl) ((run_eq k a0 a1 [] finN).trans e)
end S.math_bits_Mul
/-! math_bits_Mul32 -/
namespace S.math_bits_Mul32
noncomputable def c0 : Code := bodyOf Try.f82
@[simp] def n0 {R : Type} (k : Nat) (G : KT2 R) (v0 v1 : GV) (h : Heap) : Option R := (kconvI .u64 v0).bind fun v8 => (kconvI .u64 v1).bind fun v10 => (kbin .mul v8 v10).bind fun v11 => (kbin .shr v11 (.int .u64 32)).bind fun v13 => (kconvI .u32 v13).bind fun v14 => (kconvI .u32 v11).bind fun v16 => G .ret v14 v16 h
theorem n0_eq (G : KT2 R) (σ : GS) (h : Heap) : KC k 17 c0 σ h (fun x σ h => G x (σ 4) (σ 5) h) = n0 k G (σ 0) (σ 1) h := by kernel_rfl
def run {R : Type} (k : Nat) (a0 : GV) (a1 : GV) (h : Heap) (fin : GV → Heap → Option R) : Option R := n0 k (fun x v4 v5 h => kend x (fin (.tup [v4, v5]) h)) a0 a1 h
theorem run_eq {R : Type} (k : Nat) (a0 : GV) (a1 : GV) (h : Heap) (fin : GV → Heap → Option R) : kfun PP cfg NN HH k fn.math_bits_Mul32 [a0, a1] h fin = run k a0 a1 h fin := (kfun_eq (nt := 17) (c := c0) (show PP.funcs[fn.math_bits_Mul32]? = some Try.f82 by kernel_rfl) (by kernel_rfl) (by kernel_rfl) (fun x σ h => by cases x <;> kernel_rfl)).trans (n0_eq k (fun x v4 v5 h => kend x (fin (.tup [v4, v5]) h)) _ h)
theorem gives {k : Nat} {a0 : GV} {a1 : GV} {v : GV} (e : run k a0 a1 [] finN = some v) : NN fn.math_bits_Mul32 [a0, a1] = some v := nω_of (by kernel_rfl) ((run_eq k a0 a1 [] finN).trans e)
end S.math_bits_Mul32
/-! math_bits_Mul64 -/
namespace S.math_bits_Mul64
noncomputable def c0 : Code := bodyOf Try.f83
@[simp] def n0 {R : Type} (k : Nat) (G : KT2 R) (v0 v1 : GV) (h : Heap) : Option R := (kbin .and v0 (.int .u64 4294967295)).bind fun v15 => (kbin .shr v0 (.int .u64 32)).bind fun v17 => (kbin .and v1 (.int .u64 4294967295)).bind fun v19 => (kbin .shr v1 (.int .u64 32)).bind fun v21 => (kbin .mul v15 v19).bind fun v24 => (kbin .mul v17 v19).bind fun v27 => (kbin .shr v24 (.int .u64 32)).bind fun v29 => (kbin .add v27 v29).bind fun v30 => (kbin .and v30 (.int .u64 4294967295)).bind fun v32 => (kbin .shr v30 (.int .u64 32)).bind fun v34 => (kbin .mul v15 v21).bind fun v38 => (kbin .add v32 v38).bind fun v39 => (kbin .mul v17 v21).bind fun v42 => (kbin .add v42 v34).bind fun v44 => (kbin .shr v39 (.int .u64 32)).bind fun v46 => (kbin .add v44 v46).bind fun v47 => (kbin .mul v0 v1).bind fun v50 => G .ret v47 v50 h
theorem n0_eq (G : KT2 R) (σ : GS) (h : Heap) : KC k 51 c0 σ h (fun x σ h => G x (σ 4) (σ 5) h) = n0 k G (σ 0) (σ 1) h := by kernel_rfl
def run {R : Type} (k : Nat) (a0 : GV) (a1 : GV) (h : Heap) (fin : GV → Heap → Option R) : Option R := n0 k (fun x v4 v5 h => kend x (fin (.tup [v4, v5]) h)) a0 a1 h
theorem run_eq {R : Type} (k : Nat) (a0 : GV) (a1 : GV) (h : Heap) (fin : GV → Heap → Option R) : kfun PP cfg NN HH k fn.math_bits_Mul64 [a0, a1] h fin = run k a0 a1 h fin := (kfun_eq (nt := 51) (c := c0) (show PP.funcs[fn.math_bits_Mul64]? = some Try.f83 by kernel_rfl) (by kernel_rfl) (by kernel_rfl) (fun x σ h => by cases x <;> kernel_rfl)).trans (n0_eq k (fun x v4 v5 h => kend x (fin (.tup [v4, v5]) h)) _ h)
theorem gives {k : Nat} {a0 : GV} {a1 : GV} {v : GV} (e : run k a0 a1 [] finN = some v) : NN fn.math_bits_Mul64 [a0, a1] = some v := nω_of (by kernel_rfl) ((run_eq k a0 a1 [] finN).trans e)
end S.math_bits_Mul64
end
end Go.Proofs.Ytolhjndfplfjpaa.G
