/- What these functions do, told for open values, out of the machine with continuations. Printed by a program of this session. -/
import Derived.Test.YtolhjndfplfjpaaSA0
import Derived.KernelRfl
namespace Go.Proofs.Ytolhjndfplfjpaa.G
open Go.RowKit
set_option linter.unusedVariables false
set_option maxRecDepth 100000
noncomputable section
variable {R : Type} (k : Nat)
/-! spec_NewSession -/
namespace S.spec_NewSession
noncomputable def c0 : Code := bodyOf Try.f5
@[simp] def n0 {R : Type} (k : Nat) (G : KT1 R) (h : Heap) : Option R := kalloc [(.int .i64 0), .nils, (.int .i64 0), .nils, (.int .i64 0), (.int .i64 0), (.int .i64 0), (.int .i64 0), (.bool false), (.bool false), (.bool false), (.int .i64 0), (.int .i64 0), (.bool false), (.bool false), (.bool false), (.bool false), (.int .i64 0), (.int .i64 0), (.int .i64 0), (.int .i64 0), (.bool false), (.bool false), (.bool false), .nils, (.int .i64 0), .nils, (.int .i64 0), .nils, (.str { data := #[] }), (.str { data := #[] }), .nils, (.int .i64 0)] h fun v0 h => (kF false HH fn.spec_l7New [(.int .i64 20), (.int .i64 5)] h).bind fun r => kr r fun v1 h => (kmake [(.int .i64 0)] 1 8 (.int .i64 4) (.int .i64 4) h).bind fun r => kr r fun v2 h => (gfill (fun i => [(0, 30), (30, 1), (31, 1), (32, 1)][i]?) [(.int .i64 0), .nils, (.int .i64 0), .nils, (.int .i64 0), (.int .i64 0), (.int .i64 0), (.int .i64 0), (.bool false), (.bool false), (.bool false), (.int .i64 0), (.int .i64 0), (.bool false), (.bool false), (.bool false), (.bool false), (.int .i64 0), (.int .i64 0), (.int .i64 0), (.int .i64 0), (.bool false), (.bool false), (.bool false), .nils, (.int .i64 0), .nils, (.int .i64 0), .nils, (.str { data := #[] }), (.str { data := #[] }), .nils, (.int .i64 0)] [(0, v1), (2, v2)]).bind fun c => kagg c h fun v3 h => (kstore 33 h v0 v3).bind fun h => G .ret v0 h
theorem n0_eq (G : KT1 R) (σ : GS) (h : Heap) : KC k 4 c0 σ h (fun x σ h => G x (σ 0) h) = n0 k G h := by kernel_rfl
def run {R : Type} (k : Nat) (h : Heap) (fin : GV → Heap → Option R) : Option R := n0 k (fun x v0 h => kend x ((kloadA 33 h v0).bind fun w0 => fin w0 h)) h
theorem run_eq {R : Type} (k : Nat) (h : Heap) (fin : GV → Heap → Option R) : kfun PP cfg NN HH k fn.spec_NewSession [] h fin = run k h fin := (kfun_eq (nt := 4) (c := c0) (show PP.funcs[fn.spec_NewSession]? = some Try.f5 by kernel_rfl) (by kernel_rfl) (by kernel_rfl) (fun x σ h => by cases x <;> kernel_rfl)).trans (n0_eq k (fun x v0 h => kend x ((kloadA 33 h v0).bind fun w0 => fin w0 h)) _ h)
theorem gives {k : Nat} {v : GV} (e : run k [] finN = some v) : NN fn.spec_NewSession [] = some v := nω_of (by kernel_rfl) ((run_eq k [] finN).trans e)
end S.spec_NewSession
/-! impl_NewSession -/
namespace S.impl_NewSession
noncomputable def c0 : Code := bodyOf Try.f6
@[simp] def n0 {R : Type} (k : Nat) (G : KT1 R) (h : Heap) : Option R := kalloc [(.int .i64 0), .nils, (.int .i64 0), .nils, (.int .i64 0), (.int .i64 0), (.int .i64 0), (.int .i64 0), (.bool false), (.bool false), (.bool false), (.int .i64 0), (.int .i64 0), (.bool false), (.bool false), (.bool false), (.bool false), (.int .i64 0), (.int .i64 0), (.int .i64 0), (.int .i64 0), (.bool false), (.bool false), (.bool false), .nils, (.int .i64 0), .nils, (.int .i64 0), .nils, (.str { data := #[] }), (.str { data := #[] }), .nils, (.int .i64 0)] h fun v0 h => (kF false HH fn.impl_newTerm [(.int .i64 20), (.int .i64 5)] h).bind fun r => kr r fun v1 h => (kmake [(.int .i64 0)] 1 8 (.int .i64 4) (.int .i64 4) h).bind fun r => kr r fun v2 h => (gfill (fun i => [(0, 30), (30, 1), (31, 1), (32, 1)][i]?) [(.int .i64 0), .nils, (.int .i64 0), .nils, (.int .i64 0), (.int .i64 0), (.int .i64 0), (.int .i64 0), (.bool false), (.bool false), (.bool false), (.int .i64 0), (.int .i64 0), (.bool false), (.bool false), (.bool false), (.bool false), (.int .i64 0), (.int .i64 0), (.int .i64 0), (.int .i64 0), (.bool false), (.bool false), (.bool false), .nils, (.int .i64 0), .nils, (.int .i64 0), .nils, (.str { data := #[] }), (.str { data := #[] }), .nils, (.int .i64 0)] [(0, v1), (2, v2)]).bind fun c => kagg c h fun v3 h => (kstore 33 h v0 v3).bind fun h => G .ret v0 h
theorem n0_eq (G : KT1 R) (σ : GS) (h : Heap) : KC k 4 c0 σ h (fun x σ h => G x (σ 0) h) = n0 k G h := by kernel_rfl
def run {R : Type} (k : Nat) (h : Heap) (fin : GV → Heap → Option R) : Option R := n0 k (fun x v0 h => kend x ((kloadA 33 h v0).bind fun w0 => fin w0 h)) h
theorem run_eq {R : Type} (k : Nat) (h : Heap) (fin : GV → Heap → Option R) : kfun PP cfg NN HH k fn.impl_NewSession [] h fin = run k h fin := (kfun_eq (nt := 4) (c := c0) (show PP.funcs[fn.impl_NewSession]? = some Try.f6 by kernel_rfl) (by kernel_rfl) (by kernel_rfl) (fun x σ h => by cases x <;> kernel_rfl)).trans (n0_eq k (fun x v0 h => kend x ((kloadA 33 h v0).bind fun w0 => fin w0 h)) _ h)
theorem gives {k : Nat} {b : Nat} {q : GV × List (List GV)} (e : run k [] (finO b) = some q) : OO fn.impl_NewSession [] b = some q := oω_of ((run_eq k [] (finO b)).trans e)
end S.impl_NewSession
/-! spec_l7New -/
namespace S.spec_l7New
noncomputable def c0 : Code := bodyOf Try.f15
@[simp] def n0 {R : Type} (k : Nat) (G : KT1 R) (v0 v1 : GV) (h : Heap) : Option R := kalloc [(.int .i64 0), .nils, (.int .i64 0), .nils, (.int .i64 0), (.int .i64 0), (.int .i64 0), (.int .i64 0), (.bool false), (.bool false), (.bool false), (.int .i64 0), (.int .i64 0), (.bool false), (.bool false), (.bool false), (.bool false), (.int .i64 0), (.int .i64 0), (.int .i64 0), (.int .i64 0), (.bool false), (.bool false), (.bool false), .nils, (.int .i64 0), .nils, (.int .i64 0), .nils, (.str { data := #[] })] h fun v4 h => (kF false HH fn.spec_l5New [v0, v1] h).bind fun r => kr r fun v7 h => (kF false HH fn.spec_l5New [v0, v1] h).bind fun r => kr r fun v10 h => (kbin .sub v1 (.int .i64 1)).bind fun v12 => (kF false HH fn.spec_l6State [(.int .i64 1)] h).bind fun r => kr r fun v13 h => (gfill (fun i => [(0, 2), (2, 2), (4, 1), (5, 1), (6, 5), (11, 1), (12, 1), (13, 1), (14, 1), (15, 1), (16, 1), (17, 1), (18, 1), (19, 5), (24, 1), (25, 4), (29, 1)][i]?) [(.int .i64 0), .nils, (.int .i64 0), .nils, (.int .i64 0), (.int .i64 0), (.int .i64 0), (.int .i64 0), (.bool false), (.bool false), (.bool false), (.int .i64 0), (.int .i64 0), (.bool false), (.bool false), (.bool false), (.bool false), (.int .i64 0), (.int .i64 0), (.int .i64 0), (.int .i64 0), (.bool false), (.bool false), (.bool false), .nils, (.int .i64 0), .nils, (.int .i64 0), .nils, (.str { data := #[] })] [(0, v7), (1, v10), (6, v12), (8, (.bool true)), (15, v13)]).bind fun c => kagg c h fun v14 h => (kstore 30 h v4 v14).bind fun h => G .ret v4 h
theorem n0_eq (G : KT1 R) (σ : GS) (h : Heap) : KC k 15 c0 σ h (fun x σ h => G x (σ 4) h) = n0 k G (σ 0) (σ 1) h := by kernel_rfl
def run {R : Type} (k : Nat) (a0 : GV) (a1 : GV) (h : Heap) (fin : GV → Heap → Option R) : Option R := n0 k (fun x v4 h => kend x ((kloadA 30 h v4).bind fun w4 => fin w4 h)) a0 a1 h
theorem run_eq {R : Type} (k : Nat) (a0 : GV) (a1 : GV) (h : Heap) (fin : GV → Heap → Option R) : kfun PP cfg NN HH k fn.spec_l7New [a0, a1] h fin = run k a0 a1 h fin := (kfun_eq (nt := 15) (c := c0) (show PP.funcs[fn.spec_l7New]? = some Try.f15 by kernel_rfl) (by kernel_rfl) (by kernel_rfl) (fun x σ h => by cases x <;> kernel_rfl)).trans (n0_eq k (fun x v4 h => kend x ((kloadA 30 h v4).bind fun w4 => fin w4 h)) _ h)
theorem gives {k : Nat} {a0 : GV} {a1 : GV} {b : Nat} {q : GV × List (List GV)} (e : run k a0 a1 [] (finO b) = some q) : OO fn.spec_l7New [a0, a1] b = some q := oω_of ((run_eq k a0 a1 [] (finO b)).trans e)
end S.spec_l7New
/-! impl_newTerm -/
namespace S.impl_newTerm
noncomputable def c0 : Code := bodyOf Try.f16
@[simp] def n0 {R : Type} (k : Nat) (G : KT1 R) (v0 v1 : GV) (h : Heap) : Option R := kalloc [(.int .i64 0), .nils, (.int .i64 0), .nils, (.int .i64 0), (.int .i64 0), (.int .i64 0), (.int .i64 0), (.bool false), (.bool false), (.bool false), (.int .i64 0), (.int .i64 0), (.bool false), (.bool false), (.bool false), (.bool false), (.int .i64 0), (.int .i64 0), (.int .i64 0), (.int .i64 0), (.bool false), (.bool false), (.bool false), .nils, (.int .i64 0), .nils, (.int .i64 0), .nils, (.str { data := #[] })] h fun v4 h => (kF false HH fn.impl_NewGrid [v0, v1] h).bind fun r => kr r fun v10 h => (kxt 0 v10).bind fun v11 => (kxt 1 v10).bind fun v12 => kalloc [(.int .i64 0), .nils] h fun v5 h => (kstore 2 h v5 v11).bind fun h => (kloadA 2 h v5).bind fun v13 => (kloadA 2 h v5).bind fun v14 => (kF false HH fn.impl_Grid_copied [v14] h).bind fun r => kr r fun v15 h => (kbin .sub v1 (.int .i64 1)).bind fun v17 => (gfill (fun i => [(0, 1), (1, 1), (2, 1), (3, 1)][i]?) [(.int .i64 0), .nils, (.int .i64 0), .nils] [(0, (.int .i64 1))]).bind fun c => kagg c h fun v18 h => (gfill (fun i => [(0, 2), (2, 2), (4, 1), (5, 1), (6, 5), (11, 1), (12, 1), (13, 1), (14, 1), (15, 1), (16, 1), (17, 1), (18, 1), (19, 5), (24, 1), (25, 4), (29, 1)][i]?) [(.int .i64 0), .nils, (.int .i64 0), .nils, (.int .i64 0), (.int .i64 0), (.int .i64 0), (.int .i64 0), (.bool false), (.bool false), (.bool false), (.int .i64 0), (.int .i64 0), (.bool false), (.bool false), (.bool false), (.bool false), (.int .i64 0), (.int .i64 0), (.int .i64 0), (.int .i64 0), (.bool false), (.bool false), (.bool false), .nils, (.int .i64 0), .nils, (.int .i64 0), .nils, (.str { data := #[] })] [(0, v13), (1, v15), (6, v17), (8, (.bool true)), (15, v18)]).bind fun c => kagg c h fun v19 h => (kstore 30 h v4 v19).bind fun h => G .ret v4 h
theorem n0_eq (G : KT1 R) (σ : GS) (h : Heap) : KC k 20 c0 σ h (fun x σ h => G x (σ 4) h) = n0 k G (σ 0) (σ 1) h := by kernel_rfl
def run {R : Type} (k : Nat) (a0 : GV) (a1 : GV) (h : Heap) (fin : GV → Heap → Option R) : Option R := n0 k (fun x v4 h => kend x ((kloadA 30 h v4).bind fun w4 => fin w4 h)) a0 a1 h
theorem run_eq {R : Type} (k : Nat) (a0 : GV) (a1 : GV) (h : Heap) (fin : GV → Heap → Option R) : kfun PP cfg NN HH k fn.impl_newTerm [a0, a1] h fin = run k a0 a1 h fin := (kfun_eq (nt := 20) (c := c0) (show PP.funcs[fn.impl_newTerm]? = some Try.f16 by kernel_rfl) (by kernel_rfl) (by kernel_rfl) (fun x σ h => by cases x <;> kernel_rfl)).trans (n0_eq k (fun x v4 h => kend x ((kloadA 30 h v4).bind fun w4 => fin w4 h)) _ h)
theorem gives {k : Nat} {a0 : GV} {a1 : GV} {b : Nat} {q : GV × List (List GV)} (e : run k a0 a1 [] (finO b) = some q) : OO fn.impl_newTerm [a0, a1] b = some q := oω_of ((run_eq k a0 a1 [] (finO b)).trans e)
end S.impl_newTerm
/-! spec_l5New -/
namespace S.spec_l5New
noncomputable def c0 : Code := bodyOf Try.f39
noncomputable def c1 : Code := cR c0
noncomputable def c2 : Code := cR c1
noncomputable def c3 : Code := cR c2
@[simp] def n3 {R : Type} (k : Nat) (G : KT1 R) (v4 v5 : GV) (h : Heap) : Option R := (kloadA 2 h v5).bind fun v22 => (kstore 2 h v4 v22).bind fun h => G .ret v4 h
theorem n3_eq (G : KT1 R) (σ : GS) (h : Heap) : KC k 23 c3 σ h (fun x σ h => G x (σ 4) h) = n3 k G (σ 4) (σ 5) h := by kernel_rfl
noncomputable def c4 : Code := cL c2
noncomputable def c5 : Code := cR c4
noncomputable def c6 : Code := cL c5
noncomputable def c7 : Code := cL c6
noncomputable def c8 : Code := cR c7
noncomputable def c9 : Code := cR c8
@[simp] def n9 {R : Type} (k : Nat) (G : KT5 R) (v0 v1 v4 v5 v6 : GV) (h : Heap) : Option R := (kbin .add v6 (.int .i64 1)).bind fun v13 => G .nrm v0 v1 v4 v5 v13 h
theorem n9_eq (G : KT5 R) (σ : GS) (h : Heap) : KC k 23 c9 σ h (fun x σ h => G x (σ 0) (σ 1) (σ 4) (σ 5) (σ 6) h) = n9 k G (σ 0) (σ 1) (σ 4) (σ 5) (σ 6) h := by kernel_rfl
noncomputable def c10 : Code := cL c8
noncomputable def c11 : Code := cL c10
@[simp] def n11 {R : Type} (k : Nat) (G : KT5 R) (v0 v1 v4 v5 v6 : GV) (h : Heap) : Option R := (kfa 1 v5).bind fun v14 => (kload1 h v14).bind fun v15 => (gfill (fun i => [(0, 1), (1, 1), (2, 1), (3, 1), (4, 1)][i]?) [(.int .i64 0), (.int .i64 0), (.bool false), (.bool false), (.bool false)] []).bind fun c => kagg c h fun v17 h => (kF false HH fn.spec_l4Row [v0, v17] h).bind fun r => kr r fun v18 h => (gfill (fun i => some (i * 1, 1)) (zeros [.nils] 1) [(0, v18)]).bind fun c => kbs 1 1 c h fun v19 h => (kapp [.nils] 1 24 v15 v19 h).bind fun r => kr r fun v20 h => (kfa 1 v5).bind fun v21 => (kstore 1 h v21 v20).bind fun h => G .nrm v0 v1 v4 v5 v6 h
theorem n11_eq (G : KT5 R) (σ : GS) (h : Heap) : KC k 23 c11 σ h (fun x σ h => G x (σ 0) (σ 1) (σ 4) (σ 5) (σ 6) h) = n11 k G (σ 0) (σ 1) (σ 4) (σ 5) (σ 6) h := by kernel_rfl
@[simp] def n10 (G : KT5 R) (v0 v1 v4 v5 v6 : GV) (h : Heap) : Option R := n11 k (fun x v0 v1 v4 v5 v6 h => kb 1 x fun x => G x v0 v1 v4 v5 v6 h) v0 v1 v4 v5 v6 h
theorem n10_eq (G : KT5 R) (σ : GS) (h : Heap) : KC k 23 c10 σ h (fun x σ h => G x (σ 0) (σ 1) (σ 4) (σ 5) (σ 6) h) = n10 k G (σ 0) (σ 1) (σ 4) (σ 5) (σ 6) h := (kblock_eq (a := c11) rfl).trans (n11_eq k (fun x v0 v1 v4 v5 v6 h => kb 1 x fun x => G x v0 v1 v4 v5 v6 h) σ h)
@[simp] def n8 (G : KT5 R) (v0 v1 v4 v5 v6 : GV) (h : Heap) : Option R := n10 k (fun x v0 v1 v4 v5 v6 h => kx x (n9 k G v0 v1 v4 v5 v6 h) (G x v0 v1 v4 v5 v6 h)) v0 v1 v4 v5 v6 h
theorem n8_eq (G : KT5 R) (σ : GS) (h : Heap) : KC k 23 c8 σ h (fun x σ h => G x (σ 0) (σ 1) (σ 4) (σ 5) (σ 6) h) = n8 k G (σ 0) (σ 1) (σ 4) (σ 5) (σ 6) h := (kseq (b := c9) rfl (fun σ h => n9_eq k G σ h)).trans (n10_eq k (fun x v0 v1 v4 v5 v6 h => kx x (n9 k G v0 v1 v4 v5 v6 h) (G x v0 v1 v4 v5 v6 h)) σ h)
noncomputable def c12 : Code := cL c7
@[simp] def n7 (G : KT5 R) (v0 v1 v4 v5 v6 : GV) (h : Heap) : Option R := (kbin .lss v6 v1).bind fun v11 => kcond v11 (n8 k G v0 v1 v4 v5 v6 h) (G (.ext 0) v0 v1 v4 v5 v6 h)
theorem n7_eq (G : KT5 R) (σ : GS) (h : Heap) : KC k 23 c7 σ h (fun x σ h => G x (σ 0) (σ 1) (σ 4) (σ 5) (σ 6) h) = n7 k G (σ 0) (σ 1) (σ 4) (σ 5) (σ 6) h := (kseq (a := c12) (b := c8) rfl (fun σ h => n8_eq k G σ h)).trans (by kernel_rfl)
def l6 {R : Type} (k : Nat) (G : KT2 R) : Nat → GV → GV → GV → GV → GV → Heap → Option R
  | 0, _, _, _, _, _, _ => none
  | r + 1, v0, v1, v4, v5, v6, h => n7 k (fun x v0 v1 v4 v5 v6 h => kx x (l6 k G r v0 v1 v4 v5 v6 h) (G x v4 v5 h)) v0 v1 v4 v5 v6 h
theorem l6_eq {R : Type} (k : Nat) (G : KT2 R) : ∀ (r : Nat) (σ : GS) (h : Heap), kloop (fun σ h K => KC k 23 c7 σ h K) r σ h (fun x σ h => G x (σ 4) (σ 5) h) = l6 k G r (σ 0) (σ 1) (σ 4) (σ 5) (σ 6) h
  | 0, _, _ => rfl
  | r + 1, σ, h => (kloop_eq (fun σ h => l6_eq k G r σ h)).trans (n7_eq k (fun x v0 v1 v4 v5 v6 h => kx x (l6 k G r v0 v1 v4 v5 v6 h) (G x v4 v5 h)) σ h)
@[simp] def n6 (G : KT2 R) (v0 v1 v4 v5 v6 : GV) (h : Heap) : Option R := l6 k G k v0 v1 v4 v5 v6 h
theorem n6_eq (G : KT2 R) (σ : GS) (h : Heap) : KC k 23 c6 σ h (fun x σ h => G x (σ 4) (σ 5) h) = n6 k G (σ 0) (σ 1) (σ 4) (σ 5) (σ 6) h := (kloopc_eq (a := c7) rfl).trans (l6_eq k G k σ h)
@[simp] def n5 (G : KT2 R) (v0 v1 v4 v5 v6 : GV) (h : Heap) : Option R := n6 k (fun x v4 v5 h => kb 0 x fun x => G x v4 v5 h) v0 v1 v4 v5 v6 h
theorem n5_eq (G : KT2 R) (σ : GS) (h : Heap) : KC k 23 c5 σ h (fun x σ h => G x (σ 4) (σ 5) h) = n5 k G (σ 0) (σ 1) (σ 4) (σ 5) (σ 6) h := (kblock_eq (a := c6) rfl).trans (n6_eq k (fun x v4 v5 h => kb 0 x fun x => G x v4 v5 h) σ h)
noncomputable def c13 : Code := cL c4
@[simp] def n4 (G : KT2 R) (v0 v1 v4 v5 : GV) (h : Heap) : Option R := n5 k G v0 v1 v4 v5 (.int .i64 0) h
theorem n4_eq (G : KT2 R) (σ : GS) (h : Heap) : KC k 23 c4 σ h (fun x σ h => G x (σ 4) (σ 5) h) = n4 k G (σ 0) (σ 1) (σ 4) (σ 5) h := (kseq (a := c13) (b := c5) rfl (fun σ h => n5_eq k G σ h)).trans (by kernel_rfl)
@[simp] def n2 (G : KT1 R) (v0 v1 v4 v5 : GV) (h : Heap) : Option R := n4 k (fun x v4 v5 h => kx x (n3 k G v4 v5 h) (G x v4 h)) v0 v1 v4 v5 h
theorem n2_eq (G : KT1 R) (σ : GS) (h : Heap) : KC k 23 c2 σ h (fun x σ h => G x (σ 4) h) = n2 k G (σ 0) (σ 1) (σ 4) (σ 5) h := (kseq (b := c3) rfl (fun σ h => n3_eq k G σ h)).trans (n4_eq k (fun x v4 v5 h => kx x (n3 k G v4 v5 h) (G x v4 h)) σ h)
noncomputable def c14 : Code := cL c1
@[simp] def n1 (G : KT1 R) (v0 v1 v4 : GV) (h : Heap) : Option R := (gfill (fun i => [(0, 1), (1, 1)][i]?) [(.int .i64 0), .nils] [(0, v0)]).bind fun c => kagg c h fun v8 h => kalloc [(.int .i64 0), .nils] h fun v5 h => (kstore 2 h v5 v8).bind fun h => n2 k G v0 v1 v4 v5 h
theorem n1_eq (G : KT1 R) (σ : GS) (h : Heap) : KC k 23 c1 σ h (fun x σ h => G x (σ 4) h) = n1 k G (σ 0) (σ 1) (σ 4) h := (kseq (a := c14) (b := c2) rfl (fun σ h => n2_eq k G σ h)).trans (by kernel_rfl)
noncomputable def c15 : Code := cL c0
@[simp] def n0 (G : KT1 R) (v0 v1 : GV) (h : Heap) : Option R := kalloc [(.int .i64 0), .nils] h fun v4 h => n1 k G v0 v1 v4 h
theorem n0_eq (G : KT1 R) (σ : GS) (h : Heap) : KC k 23 c0 σ h (fun x σ h => G x (σ 4) h) = n0 k G (σ 0) (σ 1) h := (kseq (a := c15) (b := c1) rfl (fun σ h => n1_eq k G σ h)).trans (by kernel_rfl)
def run {R : Type} (k : Nat) (a0 : GV) (a1 : GV) (h : Heap) (fin : GV → Heap → Option R) : Option R := n0 k (fun x v4 h => kend x ((kloadA 2 h v4).bind fun w4 => fin w4 h)) a0 a1 h
theorem run_eq {R : Type} (k : Nat) (a0 : GV) (a1 : GV) (h : Heap) (fin : GV → Heap → Option R) : kfun PP cfg NN HH k fn.spec_l5New [a0, a1] h fin = run k a0 a1 h fin := (kfun_eq (nt := 23) (c := c0) (show PP.funcs[fn.spec_l5New]? = some Try.f39 by kernel_rfl) (by kernel_rfl) (by kernel_rfl) (fun x σ h => by cases x <;> kernel_rfl)).trans (n0_eq k (fun x v4 h => kend x ((kloadA 2 h v4).bind fun w4 => fin w4 h)) _ h)
theorem gives {k : Nat} {a0 : GV} {a1 : GV} {b : Nat} {q : GV × List (List GV)} (e : run k a0 a1 [] (finO b) = some q) : OO fn.spec_l5New [a0, a1] b = some q := oω_of ((run_eq k a0 a1 [] (finO b)).trans e)
end S.spec_l5New
/-! spec_l6State -/
namespace S.spec_l6State
noncomputable def c0 : Code := bodyOf Try.f40
@[simp] def n0 {R : Type} (k : Nat) (G : KT1 R) (v0 : GV) (h : Heap) : Option R := kalloc [(.int .i64 0), .nils, (.int .i64 0), .nils] h fun v2 h => (gfill (fun i => [(0, 1), (1, 1), (2, 1), (3, 1)][i]?) [(.int .i64 0), .nils, (.int .i64 0), .nils] [(0, v0)]).bind fun c => kagg c h fun v4 h => (kstore 4 h v2 v4).bind fun h => G .ret v2 h
theorem n0_eq (G : KT1 R) (σ : GS) (h : Heap) : KC k 5 c0 σ h (fun x σ h => G x (σ 2) h) = n0 k G (σ 0) h := by kernel_rfl
def run {R : Type} (k : Nat) (a0 : GV) (h : Heap) (fin : GV → Heap → Option R) : Option R := n0 k (fun x v2 h => kend x ((kloadA 4 h v2).bind fun w2 => fin w2 h)) a0 h
theorem run_eq {R : Type} (k : Nat) (a0 : GV) (h : Heap) (fin : GV → Heap → Option R) : kfun PP cfg NN HH k fn.spec_l6State [a0] h fin = run k a0 h fin := (kfun_eq (nt := 5) (c := c0) (show PP.funcs[fn.spec_l6State]? = some Try.f40 by kernel_rfl) (by kernel_rfl) (by kernel_rfl) (fun x σ h => by cases x <;> kernel_rfl)).trans (n0_eq k (fun x v2 h => kend x ((kloadA 4 h v2).bind fun w2 => fin w2 h)) _ h)
theorem gives {k : Nat} {a0 : GV} {b : Nat} {q : GV × List (List GV)} (e : run k a0 [] (finO b) = some q) : OO fn.spec_l6State [a0] b = some q := oω_of ((run_eq k a0 [] (finO b)).trans e)
end S.spec_l6State
/-! impl_NewGrid -/
namespace S.impl_NewGrid
noncomputable def c0 : Code := bodyOf Try.f41
noncomputable def c1 : Code := cR c0
noncomputable def c2 : Code := cR c1
noncomputable def c3 : Code := cR c2
noncomputable def c4 : Code := cR c3
@[simp] def n4 {R : Type} (k : Nat) (G : KT2 R) (v4 v6 : GV) (h : Heap) : Option R := (kloadA 2 h v6).bind fun v30 => (kstore 2 h v4 v30).bind fun h => G .ret v4 (.bool true) h
theorem n4_eq (G : KT2 R) (σ : GS) (h : Heap) : KC k 31 c4 σ h (fun x σ h => G x (σ 4) (σ 5) h) = n4 k G (σ 4) (σ 6) h := by kernel_rfl
noncomputable def c5 : Code := cL c3
noncomputable def c6 : Code := cR c5
noncomputable def c7 : Code := cL c6
noncomputable def c8 : Code := cL c7
noncomputable def c9 : Code := cR c8
noncomputable def c10 : Code := cR c9
noncomputable def c11 : Code := cR c10
@[simp] def n11 {R : Type} (k : Nat) (G : KT6 R) (v0 v4 v5 v6 v18 v19 : GV) (h : Heap) : Option R := (kbin .add v19 (.int .i64 1)).bind fun v29 => G .nrm v0 v4 v5 v6 v18 v29 h
theorem n11_eq (G : KT6 R) (σ : GS) (h : Heap) : KC k 31 c11 σ h (fun x σ h => G x (σ 0) (σ 4) (σ 5) (σ 6) (σ 18) (σ 19) h) = n11 k G (σ 0) (σ 4) (σ 5) (σ 6) (σ 18) (σ 19) h := by kernel_rfl
noncomputable def c12 : Code := cL c10
noncomputable def c13 : Code := cL c12
@[simp] def n13 {R : Type} (k : Nat) (G : KT6 R) (v0 v4 v5 v6 v18 v19 : GV) (h : Heap) : Option R := (kfa 1 v6).bind fun v21 => (kload1 h v21).bind fun v22 => (gfill (fun i => [(0, 1), (1, 1), (2, 1), (3, 1), (4, 1)][i]?) [(.int .i64 0), (.int .i64 0), (.bool false), (.bool false), (.bool false)] []).bind fun c => kagg c h fun v24 h => (kF false HH fn.impl_Blank [v0, v24] h).bind fun r => kr r fun v25 h => (gfill (fun i => some (i * 1, 1)) (zeros [.nils] 1) [(0, v25)]).bind fun c => kbs 1 1 c h fun v26 h => (kapp [.nils] 1 24 v22 v26 h).bind fun r => kr r fun v27 h => (kfa 1 v6).bind fun v28 => (kstore 1 h v28 v27).bind fun h => G .nrm v0 v4 v5 v6 v18 v19 h
theorem n13_eq (G : KT6 R) (σ : GS) (h : Heap) : KC k 31 c13 σ h (fun x σ h => G x (σ 0) (σ 4) (σ 5) (σ 6) (σ 18) (σ 19) h) = n13 k G (σ 0) (σ 4) (σ 5) (σ 6) (σ 18) (σ 19) h := by kernel_rfl
@[simp] def n12 (G : KT6 R) (v0 v4 v5 v6 v18 v19 : GV) (h : Heap) : Option R := n13 k (fun x v0 v4 v5 v6 v18 v19 h => kb 1 x fun x => G x v0 v4 v5 v6 v18 v19 h) v0 v4 v5 v6 v18 v19 h
theorem n12_eq (G : KT6 R) (σ : GS) (h : Heap) : KC k 31 c12 σ h (fun x σ h => G x (σ 0) (σ 4) (σ 5) (σ 6) (σ 18) (σ 19) h) = n12 k G (σ 0) (σ 4) (σ 5) (σ 6) (σ 18) (σ 19) h := (kblock_eq (a := c13) rfl).trans (n13_eq k (fun x v0 v4 v5 v6 v18 v19 h => kb 1 x fun x => G x v0 v4 v5 v6 v18 v19 h) σ h)
@[simp] def n10 (G : KT6 R) (v0 v4 v5 v6 v18 v19 : GV) (h : Heap) : Option R := n12 k (fun x v0 v4 v5 v6 v18 v19 h => kx x (n11 k G v0 v4 v5 v6 v18 v19 h) (G x v0 v4 v5 v6 v18 v19 h)) v0 v4 v5 v6 v18 v19 h
theorem n10_eq (G : KT6 R) (σ : GS) (h : Heap) : KC k 31 c10 σ h (fun x σ h => G x (σ 0) (σ 4) (σ 5) (σ 6) (σ 18) (σ 19) h) = n10 k G (σ 0) (σ 4) (σ 5) (σ 6) (σ 18) (σ 19) h := (kseq (b := c11) rfl (fun σ h => n11_eq k G σ h)).trans (n12_eq k (fun x v0 v4 v5 v6 v18 v19 h => kx x (n11 k G v0 v4 v5 v6 v18 v19 h) (G x v0 v4 v5 v6 v18 v19 h)) σ h)
noncomputable def c14 : Code := cL c9
@[simp] def n9 (G : KT6 R) (v0 v4 v5 v6 v18 v19 v20 : GV) (h : Heap) : Option R := kcond v20 (n10 k G v0 v4 v5 v6 v18 v19 h) (G (.ext 0) v0 v4 v5 v6 v18 v19 h)
theorem n9_eq (G : KT6 R) (σ : GS) (h : Heap) : KC k 31 c9 σ h (fun x σ h => G x (σ 0) (σ 4) (σ 5) (σ 6) (σ 18) (σ 19) h) = n9 k G (σ 0) (σ 4) (σ 5) (σ 6) (σ 18) (σ 19) (σ 20) h := (kseq (a := c14) (b := c10) rfl (fun σ h => n10_eq k G σ h)).trans (by kernel_rfl)
noncomputable def c15 : Code := cL c8
@[simp] def n8 (G : KT6 R) (v0 v4 v5 v6 v18 v19 : GV) (h : Heap) : Option R := (kbin .lss v19 v18).bind fun v20 => n9 k G v0 v4 v5 v6 v18 v19 v20 h
theorem n8_eq (G : KT6 R) (σ : GS) (h : Heap) : KC k 31 c8 σ h (fun x σ h => G x (σ 0) (σ 4) (σ 5) (σ 6) (σ 18) (σ 19) h) = n8 k G (σ 0) (σ 4) (σ 5) (σ 6) (σ 18) (σ 19) h := (kseq (a := c15) (b := c9) rfl (fun σ h => n9_eq k G σ h)).trans (by kernel_rfl)
def l7 {R : Type} (k : Nat) (G : KT3 R) : Nat → GV → GV → GV → GV → GV → GV → Heap → Option R
  | 0, _, _, _, _, _, _, _ => none
  | r + 1, v0, v4, v5, v6, v18, v19, h => n8 k (fun x v0 v4 v5 v6 v18 v19 h => kx x (l7 k G r v0 v4 v5 v6 v18 v19 h) (G x v4 v5 v6 h)) v0 v4 v5 v6 v18 v19 h
theorem l7_eq {R : Type} (k : Nat) (G : KT3 R) : ∀ (r : Nat) (σ : GS) (h : Heap), kloop (fun σ h K => KC k 31 c8 σ h K) r σ h (fun x σ h => G x (σ 4) (σ 5) (σ 6) h) = l7 k G r (σ 0) (σ 4) (σ 5) (σ 6) (σ 18) (σ 19) h
  | 0, _, _ => rfl
  | r + 1, σ, h => (kloop_eq (fun σ h => l7_eq k G r σ h)).trans (n8_eq k (fun x v0 v4 v5 v6 v18 v19 h => kx x (l7 k G r v0 v4 v5 v6 v18 v19 h) (G x v4 v5 v6 h)) σ h)
@[simp] def n7 (G : KT3 R) (v0 v4 v5 v6 v18 v19 : GV) (h : Heap) : Option R := l7 k G k v0 v4 v5 v6 v18 v19 h
theorem n7_eq (G : KT3 R) (σ : GS) (h : Heap) : KC k 31 c7 σ h (fun x σ h => G x (σ 4) (σ 5) (σ 6) h) = n7 k G (σ 0) (σ 4) (σ 5) (σ 6) (σ 18) (σ 19) h := (kloopc_eq (a := c8) rfl).trans (l7_eq k G k σ h)
@[simp] def n6 (G : KT3 R) (v0 v4 v5 v6 v18 v19 : GV) (h : Heap) : Option R := n7 k (fun x v4 v5 v6 h => kb 0 x fun x => G x v4 v5 v6 h) v0 v4 v5 v6 v18 v19 h
theorem n6_eq (G : KT3 R) (σ : GS) (h : Heap) : KC k 31 c6 σ h (fun x σ h => G x (σ 4) (σ 5) (σ 6) h) = n6 k G (σ 0) (σ 4) (σ 5) (σ 6) (σ 18) (σ 19) h := (kblock_eq (a := c7) rfl).trans (n7_eq k (fun x v4 v5 v6 h => kb 0 x fun x => G x v4 v5 v6 h) σ h)
noncomputable def c16 : Code := cL c5
@[simp] def n5 (G : KT3 R) (v0 v1 v4 v5 v6 : GV) (h : Heap) : Option R := n6 k G v0 v4 v5 v6 v1 (.int .i64 0) h
theorem n5_eq (G : KT3 R) (σ : GS) (h : Heap) : KC k 31 c5 σ h (fun x σ h => G x (σ 4) (σ 5) (σ 6) h) = n5 k G (σ 0) (σ 1) (σ 4) (σ 5) (σ 6) h := (kseq (a := c16) (b := c6) rfl (fun σ h => n6_eq k G σ h)).trans (by kernel_rfl)
@[simp] def n3 (G : KT2 R) (v0 v1 v4 v5 v6 : GV) (h : Heap) : Option R := n5 k (fun x v4 v5 v6 h => kx x (n4 k G v4 v6 h) (G x v4 v5 h)) v0 v1 v4 v5 v6 h
theorem n3_eq (G : KT2 R) (σ : GS) (h : Heap) : KC k 31 c3 σ h (fun x σ h => G x (σ 4) (σ 5) h) = n3 k G (σ 0) (σ 1) (σ 4) (σ 5) (σ 6) h := (kseq (b := c4) rfl (fun σ h => n4_eq k G σ h)).trans (n5_eq k (fun x v4 v5 v6 h => kx x (n4 k G v4 v6 h) (G x v4 v5 h)) σ h)
noncomputable def c17 : Code := cL c2
@[simp] def n2 (G : KT2 R) (v0 v1 v4 v5 : GV) (h : Heap) : Option R := (gfill (fun i => [(0, 1), (1, 1)][i]?) [(.int .i64 0), .nils] [(0, v0)]).bind fun c => kagg c h fun v17 h => kalloc [(.int .i64 0), .nils] h fun v6 h => (kstore 2 h v6 v17).bind fun h => n3 k G v0 v1 v4 v5 v6 h
theorem n2_eq (G : KT2 R) (σ : GS) (h : Heap) : KC k 31 c2 σ h (fun x σ h => G x (σ 4) (σ 5) h) = n2 k G (σ 0) (σ 1) (σ 4) (σ 5) h := (kseq (a := c17) (b := c3) rfl (fun σ h => n3_eq k G σ h)).trans (by kernel_rfl)
noncomputable def c18 : Code := cL c1
noncomputable def c19 : Code := cR c18
@[simp] def n19 {R : Type} (k : Nat) (G : KT4 R) (v0 v1 v4 v5 v14 : GV) (h : Heap) : Option R := kcond v14 ((gfill (fun i => [(0, 1), (1, 1)][i]?) [(.int .i64 0), .nils] []).bind fun c => kagg c h fun v15 h => (kstore 2 h v4 v15).bind fun h => G .ret v0 v1 v4 (.bool false) h) (G .nrm v0 v1 v4 v5 h)
theorem n19_eq (G : KT4 R) (σ : GS) (h : Heap) : KC k 31 c19 σ h (fun x σ h => G x (σ 0) (σ 1) (σ 4) (σ 5) h) = n19 k G (σ 0) (σ 1) (σ 4) (σ 5) (σ 14) h := by kernel_rfl
noncomputable def c20 : Code := cL c18
noncomputable def o20 : Array Oper := cO c20
@[simp] def g20_2 {R : Type} (k : Nat) (G : KT5 R) (v0 v1 v4 v5 v10 v13 : GV) (h : Heap) : Option R := (kpick v10 (.bool true) v13).bind fun v14 => G .nrm v0 v1 v4 v5 v14 h
theorem g20_2_eq (G : KT5 R) (σ : GS) (h : Heap) : kgroups PP cfg NN HH 31 o20 [(none, [7])] σ h (fun σ h => G .nrm (σ 0) (σ 1) (σ 4) (σ 5) (σ 14) h) = g20_2 k G (σ 0) (σ 1) (σ 4) (σ 5) (σ 10) (σ 13) h := by kernel_rfl
@[simp] def g20_1 (G : KT5 R) (v0 v1 v4 v5 v10 : GV) (h : Heap) : Option R := bif tr false v10 then (kN NN fn.impl_in [v1, (.int .i64 1), (.int .i64 30)] h).bind fun v12 => (kun .not v12).bind fun v13 => g20_2 k G v0 v1 v4 v5 v10 v13 h else g20_2 k G v0 v1 v4 v5 v10 .un h
theorem g20_1_eq (G : KT5 R) (σ : GS) (h : Heap) : kgroups PP cfg NN HH 31 o20 [(some (3, false), [4, 5, 6]), (none, [7])] σ h (fun σ h => G .nrm (σ 0) (σ 1) (σ 4) (σ 5) (σ 14) h) = g20_1 k G (σ 0) (σ 1) (σ 4) (σ 5) (σ 10) h := (kgroups_cons (fun σ h => g20_2_eq k G σ h)).trans (by kernel_rfl)
@[simp] def g20_0 (G : KT5 R) (v0 v1 v4 v5 : GV) (h : Heap) : Option R := (kN NN fn.impl_in [v0, (.int .i64 1), (.int .i64 60)] h).bind fun v8 => (kun .not v8).bind fun v9 => g20_1 k G v0 v1 v4 v5 v9 h
theorem g20_0_eq (G : KT5 R) (σ : GS) (h : Heap) : kgroups PP cfg NN HH 31 o20 [(none, [0, 1, 2, 3]), (some (3, false), [4, 5, 6]), (none, [7])] σ h (fun σ h => G .nrm (σ 0) (σ 1) (σ 4) (σ 5) (σ 14) h) = g20_0 k G (σ 0) (σ 1) (σ 4) (σ 5) h := (kgroups_cons (fun σ h => g20_1_eq k G σ h)).trans (by kernel_rfl)
@[simp] def n20 (G : KT5 R) (v0 v1 v4 v5 : GV) (h : Heap) : Option R := g20_0 k G v0 v1 v4 v5 h
theorem n20_eq (G : KT5 R) (σ : GS) (h : Heap) : KC k 31 c20 σ h (fun x σ h => G x (σ 0) (σ 1) (σ 4) (σ 5) (σ 14) h) = n20 k G (σ 0) (σ 1) (σ 4) (σ 5) h := (kregion_eq (id := 1) (draw := false) (ops := o20) (gs := [(none, [0, 1, 2, 3]), (some (3, false), [4, 5, 6]), (none, [7])]) (by kernel_rfl) (by kernel_rfl) (by kernel_rfl)).trans (g20_0_eq k G σ h)
@[simp] def n18 (G : KT4 R) (v0 v1 v4 v5 : GV) (h : Heap) : Option R := n20 k (fun x v0 v1 v4 v5 v14 h => kx x (n19 k G v0 v1 v4 v5 v14 h) (G x v0 v1 v4 v5 h)) v0 v1 v4 v5 h
theorem n18_eq (G : KT4 R) (σ : GS) (h : Heap) : KC k 31 c18 σ h (fun x σ h => G x (σ 0) (σ 1) (σ 4) (σ 5) h) = n18 k G (σ 0) (σ 1) (σ 4) (σ 5) h := (kseq (b := c19) rfl (fun σ h => n19_eq k G σ h)).trans (n20_eq k (fun x v0 v1 v4 v5 v14 h => kx x (n19 k G v0 v1 v4 v5 v14 h) (G x v0 v1 v4 v5 h)) σ h)
@[simp] def n1 (G : KT2 R) (v0 v1 v4 v5 : GV) (h : Heap) : Option R := n18 k (fun x v0 v1 v4 v5 h => kx x (n2 k G v0 v1 v4 v5 h) (G x v4 v5 h)) v0 v1 v4 v5 h
theorem n1_eq (G : KT2 R) (σ : GS) (h : Heap) : KC k 31 c1 σ h (fun x σ h => G x (σ 4) (σ 5) h) = n1 k G (σ 0) (σ 1) (σ 4) (σ 5) h := (kseq (b := c2) rfl (fun σ h => n2_eq k G σ h)).trans (n18_eq k (fun x v0 v1 v4 v5 h => kx x (n2 k G v0 v1 v4 v5 h) (G x v4 v5 h)) σ h)
noncomputable def c21 : Code := cL c0
@[simp] def n0 (G : KT2 R) (v0 v1 : GV) (h : Heap) : Option R := kalloc [(.int .i64 0), .nils] h fun v4 h => n1 k G v0 v1 v4 (.bool false) h
theorem n0_eq (G : KT2 R) (σ : GS) (h : Heap) : KC k 31 c0 σ h (fun x σ h => G x (σ 4) (σ 5) h) = n0 k G (σ 0) (σ 1) h := (kseq (a := c21) (b := c1) rfl (fun σ h => n1_eq k G σ h)).trans (by kernel_rfl)
def run {R : Type} (k : Nat) (a0 : GV) (a1 : GV) (h : Heap) (fin : GV → Heap → Option R) : Option R := n0 k (fun x v4 v5 h => kend x ((kloadA 2 h v4).bind fun w4 => fin (.tup [w4, v5]) h)) a0 a1 h
theorem run_eq {R : Type} (k : Nat) (a0 : GV) (a1 : GV) (h : Heap) (fin : GV → Heap → Option R) : kfun PP cfg NN HH k fn.impl_NewGrid [a0, a1] h fin = run k a0 a1 h fin := (kfun_eq (nt := 31) (c := c0) (show PP.funcs[fn.impl_NewGrid]? = some Try.f41 by kernel_rfl) (by kernel_rfl) (by kernel_rfl) (fun x σ h => by cases x <;> kernel_rfl)).trans (n0_eq k (fun x v4 v5 h => kend x ((kloadA 2 h v4).bind fun w4 => fin (.tup [w4, v5]) h)) _ h)
theorem gives {k : Nat} {a0 : GV} {a1 : GV} {b : Nat} {q : GV × List (List GV)} (e : run k a0 a1 [] (finO b) = some q) : OO fn.impl_NewGrid [a0, a1] b = some q := oω_of ((run_eq k a0 a1 [] (finO b)).trans e)
end S.impl_NewGrid
/-! impl_Grid_copied -/
namespace S.impl_Grid_copied
noncomputable def c0 : Code := bodyOf Try.f42
noncomputable def c1 : Code := cR c0
noncomputable def c2 : Code := cR c1
noncomputable def c3 : Code := cR c2
@[simp] def n3 {R : Type} (k : Nat) (G : KT1 R) (v2 v3 : GV) (h : Heap) : Option R := (kloadA 2 h v3).bind fun v24 => (kstore 2 h v2 v24).bind fun h => G .ret v2 h
theorem n3_eq (G : KT1 R) (σ : GS) (h : Heap) : KC k 25 c3 σ h (fun x σ h => G x (σ 2) h) = n3 k G (σ 2) (σ 3) h := by kernel_rfl
noncomputable def c4 : Code := cL c2
noncomputable def c5 : Code := cR c4
noncomputable def c6 : Code := cL c5
noncomputable def c7 : Code := cL c6
noncomputable def c8 : Code := cR c7
noncomputable def c9 : Code := cR c8
noncomputable def c10 : Code := cR c9
@[simp] def n10 {R : Type} (k : Nat) (G : KT5 R) (v2 v3 v10 v11 v12 : GV) (h : Heap) : Option R := (kbin .add v12 (.int .i64 1)).bind fun v23 => G .nrm v2 v3 v10 v11 v23 h
theorem n10_eq (G : KT5 R) (σ : GS) (h : Heap) : KC k 25 c10 σ h (fun x σ h => G x (σ 2) (σ 3) (σ 10) (σ 11) (σ 12) h) = n10 k G (σ 2) (σ 3) (σ 10) (σ 11) (σ 12) h := by kernel_rfl
noncomputable def c11 : Code := cL c9
noncomputable def c12 : Code := cL c11
@[simp] def n12 {R : Type} (k : Nat) (G : KT5 R) (v2 v3 v10 v11 v12 : GV) (h : Heap) : Option R := (kia 1 v10 v12).bind fun v14 => (kload1 h v14).bind fun v15 => (kfa 1 v3).bind fun v16 => (kload1 h v16).bind fun v17 => (kF true HH fn.slices_Clone_impl_Cell [v15] h).bind fun r => kr r fun v19 h => (gfill (fun i => some (i * 1, 1)) (zeros [.nils] 1) [(0, v19)]).bind fun c => kbs 1 1 c h fun v20 h => (kapp [.nils] 1 24 v17 v20 h).bind fun r => kr r fun v21 h => (kfa 1 v3).bind fun v22 => (kstore 1 h v22 v21).bind fun h => G .nrm v2 v3 v10 v11 v12 h
theorem n12_eq (G : KT5 R) (σ : GS) (h : Heap) : KC k 25 c12 σ h (fun x σ h => G x (σ 2) (σ 3) (σ 10) (σ 11) (σ 12) h) = n12 k G (σ 2) (σ 3) (σ 10) (σ 11) (σ 12) h := by kernel_rfl
@[simp] def n11 (G : KT5 R) (v2 v3 v10 v11 v12 : GV) (h : Heap) : Option R := n12 k (fun x v2 v3 v10 v11 v12 h => kb 1 x fun x => G x v2 v3 v10 v11 v12 h) v2 v3 v10 v11 v12 h
theorem n11_eq (G : KT5 R) (σ : GS) (h : Heap) : KC k 25 c11 σ h (fun x σ h => G x (σ 2) (σ 3) (σ 10) (σ 11) (σ 12) h) = n11 k G (σ 2) (σ 3) (σ 10) (σ 11) (σ 12) h := (kblock_eq (a := c12) rfl).trans (n12_eq k (fun x v2 v3 v10 v11 v12 h => kb 1 x fun x => G x v2 v3 v10 v11 v12 h) σ h)
@[simp] def n9 (G : KT5 R) (v2 v3 v10 v11 v12 : GV) (h : Heap) : Option R := n11 k (fun x v2 v3 v10 v11 v12 h => kx x (n10 k G v2 v3 v10 v11 v12 h) (G x v2 v3 v10 v11 v12 h)) v2 v3 v10 v11 v12 h
theorem n9_eq (G : KT5 R) (σ : GS) (h : Heap) : KC k 25 c9 σ h (fun x σ h => G x (σ 2) (σ 3) (σ 10) (σ 11) (σ 12) h) = n9 k G (σ 2) (σ 3) (σ 10) (σ 11) (σ 12) h := (kseq (b := c10) rfl (fun σ h => n10_eq k G σ h)).trans (n11_eq k (fun x v2 v3 v10 v11 v12 h => kx x (n10 k G v2 v3 v10 v11 v12 h) (G x v2 v3 v10 v11 v12 h)) σ h)
noncomputable def c13 : Code := cL c8
@[simp] def n8 (G : KT5 R) (v2 v3 v10 v11 v12 v13 : GV) (h : Heap) : Option R := kcond v13 (n9 k G v2 v3 v10 v11 v12 h) (G (.ext 0) v2 v3 v10 v11 v12 h)
theorem n8_eq (G : KT5 R) (σ : GS) (h : Heap) : KC k 25 c8 σ h (fun x σ h => G x (σ 2) (σ 3) (σ 10) (σ 11) (σ 12) h) = n8 k G (σ 2) (σ 3) (σ 10) (σ 11) (σ 12) (σ 13) h := (kseq (a := c13) (b := c9) rfl (fun σ h => n9_eq k G σ h)).trans (by kernel_rfl)
noncomputable def c14 : Code := cL c7
@[simp] def n7 (G : KT5 R) (v2 v3 v10 v11 v12 : GV) (h : Heap) : Option R := (kbin .lss v12 v11).bind fun v13 => n8 k G v2 v3 v10 v11 v12 v13 h
theorem n7_eq (G : KT5 R) (σ : GS) (h : Heap) : KC k 25 c7 σ h (fun x σ h => G x (σ 2) (σ 3) (σ 10) (σ 11) (σ 12) h) = n7 k G (σ 2) (σ 3) (σ 10) (σ 11) (σ 12) h := (kseq (a := c14) (b := c8) rfl (fun σ h => n8_eq k G σ h)).trans (by kernel_rfl)
def l6 {R : Type} (k : Nat) (G : KT2 R) : Nat → GV → GV → GV → GV → GV → Heap → Option R
  | 0, _, _, _, _, _, _ => none
  | r + 1, v2, v3, v10, v11, v12, h => n7 k (fun x v2 v3 v10 v11 v12 h => kx x (l6 k G r v2 v3 v10 v11 v12 h) (G x v2 v3 h)) v2 v3 v10 v11 v12 h
theorem l6_eq {R : Type} (k : Nat) (G : KT2 R) : ∀ (r : Nat) (σ : GS) (h : Heap), kloop (fun σ h K => KC k 25 c7 σ h K) r σ h (fun x σ h => G x (σ 2) (σ 3) h) = l6 k G r (σ 2) (σ 3) (σ 10) (σ 11) (σ 12) h
  | 0, _, _ => rfl
  | r + 1, σ, h => (kloop_eq (fun σ h => l6_eq k G r σ h)).trans (n7_eq k (fun x v2 v3 v10 v11 v12 h => kx x (l6 k G r v2 v3 v10 v11 v12 h) (G x v2 v3 h)) σ h)
@[simp] def n6 (G : KT2 R) (v2 v3 v10 v11 v12 : GV) (h : Heap) : Option R := l6 k G k v2 v3 v10 v11 v12 h
theorem n6_eq (G : KT2 R) (σ : GS) (h : Heap) : KC k 25 c6 σ h (fun x σ h => G x (σ 2) (σ 3) h) = n6 k G (σ 2) (σ 3) (σ 10) (σ 11) (σ 12) h := (kloopc_eq (a := c7) rfl).trans (l6_eq k G k σ h)
@[simp] def n5 (G : KT2 R) (v2 v3 v10 v11 v12 : GV) (h : Heap) : Option R := n6 k (fun x v2 v3 h => kb 0 x fun x => G x v2 v3 h) v2 v3 v10 v11 v12 h
theorem n5_eq (G : KT2 R) (σ : GS) (h : Heap) : KC k 25 c5 σ h (fun x σ h => G x (σ 2) (σ 3) h) = n5 k G (σ 2) (σ 3) (σ 10) (σ 11) (σ 12) h := (kblock_eq (a := c6) rfl).trans (n6_eq k (fun x v2 v3 h => kb 0 x fun x => G x v2 v3 h) σ h)
noncomputable def c15 : Code := cL c4
@[simp] def n4 (G : KT2 R) (v1 v2 v3 : GV) (h : Heap) : Option R := (kfa 1 v1).bind fun v9 => (kload1 h v9).bind fun v10 => (klen v10).bind fun v11 => n5 k G v2 v3 v10 v11 (.int .i64 0) h
theorem n4_eq (G : KT2 R) (σ : GS) (h : Heap) : KC k 25 c4 σ h (fun x σ h => G x (σ 2) (σ 3) h) = n4 k G (σ 1) (σ 2) (σ 3) h := (kseq (a := c15) (b := c5) rfl (fun σ h => n5_eq k G σ h)).trans (by kernel_rfl)
@[simp] def n2 (G : KT1 R) (v1 v2 v3 : GV) (h : Heap) : Option R := n4 k (fun x v2 v3 h => kx x (n3 k G v2 v3 h) (G x v2 h)) v1 v2 v3 h
theorem n2_eq (G : KT1 R) (σ : GS) (h : Heap) : KC k 25 c2 σ h (fun x σ h => G x (σ 2) h) = n2 k G (σ 1) (σ 2) (σ 3) h := (kseq (b := c3) rfl (fun σ h => n3_eq k G σ h)).trans (n4_eq k (fun x v2 v3 h => kx x (n3 k G v2 v3 h) (G x v2 h)) σ h)
noncomputable def c16 : Code := cL c1
@[simp] def n1 (G : KT1 R) (v1 v2 : GV) (h : Heap) : Option R := (kfa 0 v1).bind fun v6 => (kload1 h v6).bind fun v7 => (gfill (fun i => [(0, 1), (1, 1)][i]?) [(.int .i64 0), .nils] [(0, v7)]).bind fun c => kagg c h fun v8 h => kalloc [(.int .i64 0), .nils] h fun v3 h => (kstore 2 h v3 v8).bind fun h => n2 k G v1 v2 v3 h
theorem n1_eq (G : KT1 R) (σ : GS) (h : Heap) : KC k 25 c1 σ h (fun x σ h => G x (σ 2) h) = n1 k G (σ 1) (σ 2) h := (kseq (a := c16) (b := c2) rfl (fun σ h => n2_eq k G σ h)).trans (by kernel_rfl)
noncomputable def c17 : Code := cL c0
@[simp] def n0 (G : KT1 R) (v0 : GV) (h : Heap) : Option R := kbox v0 h fun v1 h => kalloc [(.int .i64 0), .nils] h fun v2 h => n1 k G v1 v2 h
theorem n0_eq (G : KT1 R) (σ : GS) (h : Heap) : KC k 25 c0 σ h (fun x σ h => G x (σ 2) h) = n0 k G (σ 0) h := (kseq (a := c17) (b := c1) rfl (fun σ h => n1_eq k G σ h)).trans (by kernel_rfl)
def run {R : Type} (k : Nat) (a0 : GV) (h : Heap) (fin : GV → Heap → Option R) : Option R := n0 k (fun x v2 h => kend x ((kloadA 2 h v2).bind fun w2 => fin w2 h)) a0 h
theorem run_eq {R : Type} (k : Nat) (a0 : GV) (h : Heap) (fin : GV → Heap → Option R) : kfun PP cfg NN HH k fn.impl_Grid_copied [a0] h fin = run k a0 h fin := (kfun_eq (nt := 25) (c := c0) (show PP.funcs[fn.impl_Grid_copied]? = some Try.f42 by kernel_rfl) (by kernel_rfl) (by kernel_rfl) (fun x σ h => by cases x <;> kernel_rfl)).trans (n0_eq k (fun x v2 h => kend x ((kloadA 2 h v2).bind fun w2 => fin w2 h)) _ h)
theorem gives {k : Nat} {a0 : GV} {b : Nat} {q : GV × List (List GV)} (e : run k a0 [] (finO b) = some q) : OO fn.impl_Grid_copied [a0] b = some q := oω_of ((run_eq k a0 [] (finO b)).trans e)
end S.impl_Grid_copied
/-! impl_in -/
namespace S.impl_in
noncomputable def c0 : Code := bodyOf Try.f52
noncomputable def c1 : Code := cR c0
noncomputable def c2 : Code := cR c1
@[simp] def n2 {R : Type} (k : Nat) (G : KT1 R) (v6 : GV) (h : Heap) : Option R := G .ret v6 h
theorem n2_eq (G : KT1 R) (σ : GS) (h : Heap) : KC k 15 c2 σ h (fun x σ h => G x (σ 6) h) = n2 k G (σ 6) h := by kernel_rfl
noncomputable def c3 : Code := cL c1
noncomputable def o3 : Array Oper := cO c3
@[simp] def g3_2 {R : Type} (k : Nat) (G : KT1 R) (v10 v13 : GV) (h : Heap) : Option R := (kpick v10 v13 (.bool false)).bind fun v14 => G .nrm v14 h
theorem g3_2_eq (G : KT1 R) (σ : GS) (h : Heap) : kgroups PP cfg NN HH 15 o3 [(none, [7, 8])] σ h (fun σ h => G .nrm (σ 6) h) = g3_2 k G (σ 10) (σ 13) h := by kernel_rfl
@[simp] def g3_1 (G : KT1 R) (v0 v2 v10 : GV) (h : Heap) : Option R := bif tr true v10 then (kbin .leq v0 v2).bind fun v13 => g3_2 k G v10 v13 h else g3_2 k G v10 .un h
theorem g3_1_eq (G : KT1 R) (σ : GS) (h : Heap) : kgroups PP cfg NN HH 15 o3 [(some (3, true), [4, 5, 6]), (none, [7, 8])] σ h (fun σ h => G .nrm (σ 6) h) = g3_1 k G (σ 0) (σ 2) (σ 10) h := (kgroups_cons (fun σ h => g3_2_eq k G σ h)).trans (by kernel_rfl)
@[simp] def g3_0 (G : KT1 R) (v0 v1 v2 : GV) (h : Heap) : Option R := (kbin .leq v1 v0).bind fun v9 => g3_1 k G v0 v2 v9 h
theorem g3_0_eq (G : KT1 R) (σ : GS) (h : Heap) : kgroups PP cfg NN HH 15 o3 [(none, [0, 1, 2, 3]), (some (3, true), [4, 5, 6]), (none, [7, 8])] σ h (fun σ h => G .nrm (σ 6) h) = g3_0 k G (σ 0) (σ 1) (σ 2) h := (kgroups_cons (fun σ h => g3_1_eq k G σ h)).trans (by kernel_rfl)
@[simp] def n3 (G : KT1 R) (v0 v1 v2 : GV) (h : Heap) : Option R := g3_0 k G v0 v1 v2 h
theorem n3_eq (G : KT1 R) (σ : GS) (h : Heap) : KC k 15 c3 σ h (fun x σ h => G x (σ 6) h) = n3 k G (σ 0) (σ 1) (σ 2) h := (kregion_eq (id := 1) (draw := false) (ops := o3) (gs := [(none, [0, 1, 2, 3]), (some (3, true), [4, 5, 6]), (none, [7, 8])]) (by kernel_rfl) (by kernel_rfl) (by kernel_rfl)).trans (g3_0_eq k G σ h)
@[simp] def n1 (G : KT1 R) (v0 v1 v2 : GV) (h : Heap) : Option R := n3 k (fun x v6 h => kx x (n2 k G v6 h) (G x v6 h)) v0 v1 v2 h
theorem n1_eq (G : KT1 R) (σ : GS) (h : Heap) : KC k 15 c1 σ h (fun x σ h => G x (σ 6) h) = n1 k G (σ 0) (σ 1) (σ 2) h := (kseq (b := c2) rfl (fun σ h => n2_eq k G σ h)).trans (n3_eq k (fun x v6 h => kx x (n2 k G v6 h) (G x v6 h)) σ h)
noncomputable def c4 : Code := cL c0
@[simp] def n0 (G : KT1 R) (v0 v1 v2 : GV) (h : Heap) : Option R := n1 k G v0 v1 v2 h
theorem n0_eq (G : KT1 R) (σ : GS) (h : Heap) : KC k 15 c0 σ h (fun x σ h => G x (σ 6) h) = n0 k G (σ 0) (σ 1) (σ 2) h := (kseq (a := c4) (b := c1) rfl (fun σ h => n1_eq k G σ h)).trans (by kernel_rfl)
def run {R : Type} (k : Nat) (a0 : GV) (a1 : GV) (a2 : GV) (h : Heap) (fin : GV → Heap → Option R) : Option R := n0 k (fun x v6 h => kend x (fin v6 h)) a0 a1 a2 h
theorem run_eq {R : Type} (k : Nat) (a0 : GV) (a1 : GV) (a2 : GV) (h : Heap) (fin : GV → Heap → Option R) : kfun PP cfg NN HH k fn.impl_in [a0, a1, a2] h fin = run k a0 a1 a2 h fin := (kfun_eq (nt := 15) (c := c0) (show PP.funcs[fn.impl_in]? = some Try.f52 by kernel_rfl) (by kernel_rfl) (by kernel_rfl) (fun x σ h => by cases x <;> kernel_rfl)).trans (n0_eq k (fun x v6 h => kend x (fin v6 h)) _ h)
theorem gives {k : Nat} {a0 : GV} {a1 : GV} {a2 : GV} {v : GV} (e : run k a0 a1 a2 [] finN = some v) : NN fn.impl_in [a0, a1, a2] = some v := nω_of (by kernel_rfl) ((run_eq k a0 a1 a2 [] finN).trans e)
end S.impl_in
end
end Go.Proofs.Ytolhjndfplfjpaa.G
