/- What these functions do, told for open values, out of the machine with continuations. Printed by a program of this session. -/
import Derived.Test.YtklhdbkaejbajaaDoorSN
import Derived.KernelRfl
namespace Go.Proofs.YtklhdbkaejbajaaDoor.G
open Go.RowKit
set_option linter.unusedVariables false
set_option maxRecDepth 100000
noncomputable section
variable {R : Type} (k : Nat)
/-! impl_Records -/
namespace S.impl_Records
noncomputable def c0 : Code := bodyOf Tryd.f25
noncomputable def c1 : Code := cR c0
noncomputable def c2 : Code := cR c1
noncomputable def c3 : Code := cL c2
noncomputable def c4 : Code := cL c3
noncomputable def c5 : Code := cL c4
@[simp] def n5 {R : Type} (k : Nat) (G : KT5 R) (v0 v2 v3 v4 v5 : GV) (h : Heap) : Option R := (kslS v0 (some v5) none none).bind fun v12 => (kN NN fn.impl_takeRecord [v12] h).bind fun v13 => (kxt 0 v13).bind fun v14 => (kxt 1 v13).bind fun v15 => (kun .not v15).bind fun v17 => kcond v17 (G .ret v0 v4 v5 v4 v5 h) ((gfill (fun i => some (i * 1, 1)) (zeros [(.str { data := #[] })] 1) [(0, v14)]).bind fun c => kbs 1 1 c h fun v22 h => (kapp [(.str { data := #[] })] 1 16 v4 v22 h).bind fun r => kr r fun v23 h => (kN NN fn.impl_Record [v14] h).bind fun v26 => (klenS v26).bind fun v27 => (kbin .add v5 v27).bind fun v28 => G .nrm v0 v2 v3 v23 v28 h)
theorem n5_eq (G : KT5 R) (σ : GS) (h : Heap) : KC k 29 c5 σ h (fun x σ h => G x (σ 0) (σ 2) (σ 3) (σ 4) (σ 5) h) = n5 k G (σ 0) (σ 2) (σ 3) (σ 4) (σ 5) h := by kernel_rfl
@[simp] def n4 (G : KT5 R) (v0 v2 v3 v4 v5 : GV) (h : Heap) : Option R := n5 k (fun x v0 v2 v3 v4 v5 h => kb 1 x fun x => G x v0 v2 v3 v4 v5 h) v0 v2 v3 v4 v5 h
theorem n4_eq (G : KT5 R) (σ : GS) (h : Heap) : KC k 29 c4 σ h (fun x σ h => G x (σ 0) (σ 2) (σ 3) (σ 4) (σ 5) h) = n4 k G (σ 0) (σ 2) (σ 3) (σ 4) (σ 5) h := (kblock_eq (a := c5) rfl).trans (n5_eq k (fun x v0 v2 v3 v4 v5 h => kb 1 x fun x => G x v0 v2 v3 v4 v5 h) σ h)
def l3 {R : Type} (k : Nat) (G : KT2 R) : Nat → GV → GV → GV → GV → GV → Heap → Option R
  | 0, _, _, _, _, _, _ => none
  | r + 1, v0, v2, v3, v4, v5, h => n4 k (fun x v0 v2 v3 v4 v5 h => kx x (l3 k G r v0 v2 v3 v4 v5 h) (G x v2 v3 h)) v0 v2 v3 v4 v5 h
theorem l3_eq {R : Type} (k : Nat) (G : KT2 R) : ∀ (r : Nat) (σ : GS) (h : Heap), kloop (fun σ h K => KC k 29 c4 σ h K) r σ h (fun x σ h => G x (σ 2) (σ 3) h) = l3 k G r (σ 0) (σ 2) (σ 3) (σ 4) (σ 5) h
  | 0, _, _ => rfl
  | r + 1, σ, h => (kloop_eq (fun σ h => l3_eq k G r σ h)).trans (n4_eq k (fun x v0 v2 v3 v4 v5 h => kx x (l3 k G r v0 v2 v3 v4 v5 h) (G x v2 v3 h)) σ h)
@[simp] def n3 (G : KT2 R) (v0 v2 v3 v4 v5 : GV) (h : Heap) : Option R := l3 k G k v0 v2 v3 v4 v5 h
theorem n3_eq (G : KT2 R) (σ : GS) (h : Heap) : KC k 29 c3 σ h (fun x σ h => G x (σ 2) (σ 3) h) = n3 k G (σ 0) (σ 2) (σ 3) (σ 4) (σ 5) h := (kloopc_eq (a := c4) rfl).trans (l3_eq k G k σ h)
@[simp] def n2 (G : KT2 R) (v0 v2 v3 v4 v5 : GV) (h : Heap) : Option R := n3 k (fun x v2 v3 h => kb 0 x fun x => G x v2 v3 h) v0 v2 v3 v4 v5 h
theorem n2_eq (G : KT2 R) (σ : GS) (h : Heap) : KC k 29 c2 σ h (fun x σ h => G x (σ 2) (σ 3) h) = n2 k G (σ 0) (σ 2) (σ 3) (σ 4) (σ 5) h := (kblock_eq (a := c3) rfl).trans (n3_eq k (fun x v2 v3 h => kb 0 x fun x => G x v2 v3 h) σ h)
noncomputable def c6 : Code := cL c1
@[simp] def n1 (G : KT2 R) (v0 v2 v3 : GV) (h : Heap) : Option R := n2 k G v0 v2 v3 .emp (.int .i64 0) h
theorem n1_eq (G : KT2 R) (σ : GS) (h : Heap) : KC k 29 c1 σ h (fun x σ h => G x (σ 2) (σ 3) h) = n1 k G (σ 0) (σ 2) (σ 3) h := (kseq (a := c6) (b := c2) rfl (fun σ h => n2_eq k G σ h)).trans (by kernel_rfl)
noncomputable def c7 : Code := cL c0
@[simp] def n0 (G : KT2 R) (v0 : GV) (h : Heap) : Option R := n1 k G v0 .nils (.int .i64 0) h
theorem n0_eq (G : KT2 R) (σ : GS) (h : Heap) : KC k 29 c0 σ h (fun x σ h => G x (σ 2) (σ 3) h) = n0 k G (σ 0) h := (kseq (a := c7) (b := c1) rfl (fun σ h => n1_eq k G σ h)).trans (by kernel_rfl)
def run {R : Type} (k : Nat) (a0 : GV) (h : Heap) (fin : GV → Heap → Option R) : Option R := n0 k (fun x v2 v3 h => kend x (fin (.tup [v2, v3]) h)) a0 h
theorem run_eq {R : Type} (k : Nat) (a0 : GV) (h : Heap) (fin : GV → Heap → Option R) : kfun PP cfg NN HH k fn.impl_Records [a0] h fin = run k a0 h fin := (kfun_eq (nt := 29) (c := c0) (show PP.funcs[fn.impl_Records]? = some Tryd.f25 by kernel_rfl) (by kernel_rfl) (by kernel_rfl) (fun x σ h => by cases x <;> kernel_rfl)).trans (n0_eq k (fun x v2 v3 h => kend x (fin (.tup [v2, v3]) h)) _ h)
theorem gives {k : Nat} {a0 : GV} {b : Nat} {q : GV × List (List GV)} (e : run k a0 [] (finO b) = some q) : OO fn.impl_Records [a0] b = some q := oω_of ((run_eq k a0 [] (finO b)).trans e)
end S.impl_Records
/-! spec_Records -/
namespace S.spec_Records
noncomputable def c0 : Code := bodyOf Tryd.f24
noncomputable def c1 : Code := cR c0
noncomputable def c2 : Code := cR c1
noncomputable def c3 : Code := cR c2
noncomputable def c4 : Code := cL c3
noncomputable def c5 : Code := cL c4
noncomputable def c6 : Code := cL c5
@[simp] def n6 {R : Type} (k : Nat) (G : KT5 R) (v0 v2 v3 v4 v5 : GV) (h : Heap) : Option R := (kslS v0 (some v5) none none).bind fun v12 => (kN NN fn.spec_l16Record [v12] h).bind fun v13 => (kxt 0 v13).bind fun v14 => (kxt 1 v13).bind fun v15 => (kbin .eql v15 (.int .i64 0)).bind fun v17 => kcond v17 (G .ret v0 v4 v5 v4 v5 h) ((gfill (fun i => some (i * 1, 1)) (zeros [(.str { data := #[] })] 1) [(0, v14)]).bind fun c => kbs 1 1 c h fun v22 h => (kapp [(.str { data := #[] })] 1 16 v4 v22 h).bind fun r => kr r fun v23 h => (kbin .add v5 v15).bind fun v26 => G .nrm v0 v2 v3 v23 v26 h)
theorem n6_eq (G : KT5 R) (σ : GS) (h : Heap) : KC k 27 c6 σ h (fun x σ h => G x (σ 0) (σ 2) (σ 3) (σ 4) (σ 5) h) = n6 k G (σ 0) (σ 2) (σ 3) (σ 4) (σ 5) h := by kernel_rfl
@[simp] def n5 (G : KT5 R) (v0 v2 v3 v4 v5 : GV) (h : Heap) : Option R := n6 k (fun x v0 v2 v3 v4 v5 h => kb 1 x fun x => G x v0 v2 v3 v4 v5 h) v0 v2 v3 v4 v5 h
theorem n5_eq (G : KT5 R) (σ : GS) (h : Heap) : KC k 27 c5 σ h (fun x σ h => G x (σ 0) (σ 2) (σ 3) (σ 4) (σ 5) h) = n5 k G (σ 0) (σ 2) (σ 3) (σ 4) (σ 5) h := (kblock_eq (a := c6) rfl).trans (n6_eq k (fun x v0 v2 v3 v4 v5 h => kb 1 x fun x => G x v0 v2 v3 v4 v5 h) σ h)
def l4 {R : Type} (k : Nat) (G : KT2 R) : Nat → GV → GV → GV → GV → GV → Heap → Option R
  | 0, _, _, _, _, _, _ => none
  | r + 1, v0, v2, v3, v4, v5, h => n5 k (fun x v0 v2 v3 v4 v5 h => kx x (l4 k G r v0 v2 v3 v4 v5 h) (G x v2 v3 h)) v0 v2 v3 v4 v5 h
theorem l4_eq {R : Type} (k : Nat) (G : KT2 R) : ∀ (r : Nat) (σ : GS) (h : Heap), kloop (fun σ h K => KC k 27 c5 σ h K) r σ h (fun x σ h => G x (σ 2) (σ 3) h) = l4 k G r (σ 0) (σ 2) (σ 3) (σ 4) (σ 5) h
  | 0, _, _ => rfl
  | r + 1, σ, h => (kloop_eq (fun σ h => l4_eq k G r σ h)).trans (n5_eq k (fun x v0 v2 v3 v4 v5 h => kx x (l4 k G r v0 v2 v3 v4 v5 h) (G x v2 v3 h)) σ h)
@[simp] def n4 (G : KT2 R) (v0 v2 v3 v4 v5 : GV) (h : Heap) : Option R := l4 k G k v0 v2 v3 v4 v5 h
theorem n4_eq (G : KT2 R) (σ : GS) (h : Heap) : KC k 27 c4 σ h (fun x σ h => G x (σ 2) (σ 3) h) = n4 k G (σ 0) (σ 2) (σ 3) (σ 4) (σ 5) h := (kloopc_eq (a := c5) rfl).trans (l4_eq k G k σ h)
@[simp] def n3 (G : KT2 R) (v0 v2 v3 v4 v5 : GV) (h : Heap) : Option R := n4 k (fun x v2 v3 h => kb 0 x fun x => G x v2 v3 h) v0 v2 v3 v4 v5 h
theorem n3_eq (G : KT2 R) (σ : GS) (h : Heap) : KC k 27 c3 σ h (fun x σ h => G x (σ 2) (σ 3) h) = n3 k G (σ 0) (σ 2) (σ 3) (σ 4) (σ 5) h := (kblock_eq (a := c4) rfl).trans (n4_eq k (fun x v2 v3 h => kb 0 x fun x => G x v2 v3 h) σ h)
noncomputable def c7 : Code := cL c2
@[simp] def n2 (G : KT2 R) (v0 v2 v3 v4 : GV) (h : Heap) : Option R := n3 k G v0 v2 v3 v4 (.int .i64 0) h
theorem n2_eq (G : KT2 R) (σ : GS) (h : Heap) : KC k 27 c2 σ h (fun x σ h => G x (σ 2) (σ 3) h) = n2 k G (σ 0) (σ 2) (σ 3) (σ 4) h := (kseq (a := c7) (b := c3) rfl (fun σ h => n3_eq k G σ h)).trans (by kernel_rfl)
noncomputable def c8 : Code := cL c1
@[simp] def n1 (G : KT2 R) (v0 v2 v3 : GV) (h : Heap) : Option R := n2 k G v0 v2 v3 .emp h
theorem n1_eq (G : KT2 R) (σ : GS) (h : Heap) : KC k 27 c1 σ h (fun x σ h => G x (σ 2) (σ 3) h) = n1 k G (σ 0) (σ 2) (σ 3) h := (kseq (a := c8) (b := c2) rfl (fun σ h => n2_eq k G σ h)).trans (by kernel_rfl)
noncomputable def c9 : Code := cL c0
@[simp] def n0 (G : KT2 R) (v0 : GV) (h : Heap) : Option R := n1 k G v0 .nils (.int .i64 0) h
theorem n0_eq (G : KT2 R) (σ : GS) (h : Heap) : KC k 27 c0 σ h (fun x σ h => G x (σ 2) (σ 3) h) = n0 k G (σ 0) h := (kseq (a := c9) (b := c1) rfl (fun σ h => n1_eq k G σ h)).trans (by kernel_rfl)
def run {R : Type} (k : Nat) (a0 : GV) (h : Heap) (fin : GV → Heap → Option R) : Option R := n0 k (fun x v2 v3 h => kend x (fin (.tup [v2, v3]) h)) a0 h
theorem run_eq {R : Type} (k : Nat) (a0 : GV) (h : Heap) (fin : GV → Heap → Option R) : kfun PP cfg NN HH k fn.spec_Records [a0] h fin = run k a0 h fin := (kfun_eq (nt := 27) (c := c0) (show PP.funcs[fn.spec_Records]? = some Tryd.f24 by kernel_rfl) (by kernel_rfl) (by kernel_rfl) (fun x σ h => by cases x <;> kernel_rfl)).trans (n0_eq k (fun x v2 v3 h => kend x (fin (.tup [v2, v3]) h)) _ h)
theorem gives {k : Nat} {a0 : GV} {v : GV} (e : run k a0 [] finN = some v) : NN fn.spec_Records [a0] = some v := nω_of (by kernel_rfl) ((run_eq k a0 [] finN).trans e)
end S.spec_Records
end
end Go.Proofs.YtklhdbkaejbajaaDoor.G
