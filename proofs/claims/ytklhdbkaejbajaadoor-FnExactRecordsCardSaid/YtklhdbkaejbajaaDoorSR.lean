/- What these functions do, told for open values, out of the machine with continuations. Printed by a program of this session. -/
import Derived.Test.YtklhdbkaejbajaaDoorSA
import Derived.KernelRfl
namespace Go.Proofs.YtklhdbkaejbajaaDoor.G
open Go.RowKit
set_option linter.unusedVariables false
set_option maxRecDepth 100000
noncomputable section
/-! impl_Records -/
namespace S.impl_Records
noncomputable def c0 : Code := bodyOf Tryd.f25
noncomputable def c1 : Code := cR c0
noncomputable def c2 : Code := cR c1
noncomputable def c3 : Code := cL c2
noncomputable def c4 : Code := cL c3
noncomputable def c5 : Code := cL c4
@[simp] def n5 {R : Type} (k : Nat) (G : KT5 R) (v0 v2 v3 v4 v5 : GV) (h : Heap) : Option R := (kslS v0 (some v5) none none).bind fun v12 => (kN NN fn.impl_takeRecord [v12] h).bind fun v13 => (kxt 0 v13).bind fun v14 => (kxt 1 v13).bind fun v15 => (kun .not v15).bind fun v17 => kcond v17 (G .ret v0 v4 v5 v4 v5 h) ((gfill (fun i => some (i * 1, 1)) (zeros [(.str { data := #[] })] 1) [(0, v14)]).bind fun c => kbs 1 1 c h fun v22 h => (kapp [(.str { data := #[] })] 1 16 v4 v22 h).bind fun r => kr r fun v23 h => (kN NN fn.impl_Record [v14] h).bind fun v26 => (klenS v26).bind fun v27 => (kbin .add v5 v27).bind fun v28 => G .nrm v0 v2 v3 v23 v28 h)
theorem n5_eq {R : Type} (k : Nat) (G : KT5 R) (σ : GS) (h : Heap) : KC k 29 c5 σ h (fun x σ h => G x (σ 0) (σ 2) (σ 3) (σ 4) (σ 5) h) = n5 k G (σ 0) (σ 2) (σ 3) (σ 4) (σ 5) h := by kernel_rfl
@[simp] def n4 {R : Type} (k : Nat) (G : KT5 R) (v0 v2 v3 v4 v5 : GV) (h : Heap) : Option R := n5 k (fun x v0 v2 v3 v4 v5 h => kb 1 x fun x => G x v0 v2 v3 v4 v5 h) v0 v2 v3 v4 v5 h
theorem n4_eq {R : Type} (k : Nat) (G : KT5 R) (σ : GS) (h : Heap) : KC k 29 c4 σ h (fun x σ h => G x (σ 0) (σ 2) (σ 3) (σ 4) (σ 5) h) = n4 k G (σ 0) (σ 2) (σ 3) (σ 4) (σ 5) h := (kblock_eq (a := c5) rfl).trans (n5_eq k (fun x v0 v2 v3 v4 v5 h => kb 1 x fun x => G x v0 v2 v3 v4 v5 h) σ h)
def l3 {R : Type} (k : Nat) (G : KT2 R) : Nat → GV → GV → GV → GV → GV → Heap → Option R
  | 0, _, _, _, _, _, _ => none
  | r + 1, v0, v2, v3, v4, v5, h => n4 k (fun x v0 v2 v3 v4 v5 h => kx x (l3 k G r v0 v2 v3 v4 v5 h) (G x v2 v3 h)) v0 v2 v3 v4 v5 h
theorem l3_eq {R : Type} (k : Nat) (G : KT2 R) : ∀ (r : Nat) (σ : GS) (h : Heap), kloop (fun σ h K => KC k 29 c4 σ h K) r σ h (fun x σ h => G x (σ 2) (σ 3) h) = l3 k G r (σ 0) (σ 2) (σ 3) (σ 4) (σ 5) h
  | 0, _, _ => rfl
  | r + 1, σ, h => (kloop_eq (fun σ h => l3_eq k G r σ h)).trans (n4_eq k (fun x v0 v2 v3 v4 v5 h => kx x (l3 k G r v0 v2 v3 v4 v5 h) (G x v2 v3 h)) σ h)
@[simp] def n3 {R : Type} (k : Nat) (G : KT2 R) (v0 v2 v3 v4 v5 : GV) (h : Heap) : Option R := l3 k G k v0 v2 v3 v4 v5 h
theorem n3_eq {R : Type} (k : Nat) (G : KT2 R) (σ : GS) (h : Heap) : KC k 29 c3 σ h (fun x σ h => G x (σ 2) (σ 3) h) = n3 k G (σ 0) (σ 2) (σ 3) (σ 4) (σ 5) h := (kloopc_eq (a := c4) rfl).trans (l3_eq k G k σ h)
@[simp] def n2 {R : Type} (k : Nat) (G : KT2 R) (v0 v2 v3 v4 v5 : GV) (h : Heap) : Option R := n3 k (fun x v2 v3 h => kb 0 x fun x => G x v2 v3 h) v0 v2 v3 v4 v5 h
theorem n2_eq {R : Type} (k : Nat) (G : KT2 R) (σ : GS) (h : Heap) : KC k 29 c2 σ h (fun x σ h => G x (σ 2) (σ 3) h) = n2 k G (σ 0) (σ 2) (σ 3) (σ 4) (σ 5) h := (kblock_eq (a := c3) rfl).trans (n3_eq k (fun x v2 v3 h => kb 0 x fun x => G x v2 v3 h) σ h)
noncomputable def c6 : Code := cL c1
@[simp] def n1 {R : Type} (k : Nat) (G : KT2 R) (v0 v2 v3 : GV) (h : Heap) : Option R := n2 k G v0 v2 v3 .emp (.int .i64 0) h
theorem n1_eq0 {R : Type} (k : Nat) (G : KT2 R) (σ : GS) (h : Heap) : KC k 29 c6 σ h (fun x σ h => kx x (n2 k G (σ 0) (σ 2) (σ 3) (σ 4) (σ 5) h) (G x (σ 2) (σ 3) h)) = n1 k G (σ 0) (σ 2) (σ 3) h := by kernel_rfl
theorem n1_eq {R : Type} (k : Nat) (G : KT2 R) (σ : GS) (h : Heap) : KC k 29 c1 σ h (fun x σ h => G x (σ 2) (σ 3) h) = n1 k G (σ 0) (σ 2) (σ 3) h := (kseq (b := c2) rfl (fun σ h => n2_eq k G σ h)).trans (n1_eq0 k G σ h)
noncomputable def c7 : Code := cL c0
@[simp] def n0 {R : Type} (k : Nat) (G : KT2 R) (v0 : GV) (h : Heap) : Option R := n1 k G v0 .nils (.int .i64 0) h
theorem n0_eq0 {R : Type} (k : Nat) (G : KT2 R) (σ : GS) (h : Heap) : KC k 29 c7 σ h (fun x σ h => kx x (n1 k G (σ 0) (σ 2) (σ 3) h) (G x (σ 2) (σ 3) h)) = n0 k G (σ 0) h := by kernel_rfl
theorem n0_eq {R : Type} (k : Nat) (G : KT2 R) (σ : GS) (h : Heap) : KC k 29 c0 σ h (fun x σ h => G x (σ 2) (σ 3) h) = n0 k G (σ 0) h := (kseq (b := c1) rfl (fun σ h => n1_eq k G σ h)).trans (n0_eq0 k G σ h)
def run {R : Type} (k : Nat) (a0 : GV) (h : Heap) (fin : GV → Heap → Option R) : Option R := n0 k (fun x v2 v3 h => kend x (fin (.tup [v2, v3]) h)) a0 h
theorem run_eq {R : Type} (k : Nat) (a0 : GV) (h : Heap) (fin : GV → Heap → Option R) : kfun PP cfg NN HH k fn.impl_Records [a0] h fin = run k a0 h fin := (kfun_eq (nt := 29) (c := c0) (show PP.funcs[fn.impl_Records]? = some Tryd.f25 by kernel_rfl) (by kernel_rfl) (by kernel_rfl) (fun x σ h => by cases x <;> kernel_rfl)).trans (n0_eq k (fun x v2 v3 h => kend x (fin (.tup [v2, v3]) h)) _ h)
theorem gives {k : Nat} {a0 : GV} {b : Nat} {q : GV × List (List GV)} (e : run k a0 [] (finO b) = some q) : OO fn.impl_Records [a0] b = some q := oω_of ((run_eq k a0 [] (finO b)).trans e)
end S.impl_Records
/-! spec_Records -/
namespace S.spec_Records
noncomputable def c0 : Code := bodyOf Tryd.f24
noncomputable def c1 : Code := cR c0
noncomputable def c2 : Code := cR c1
noncomputable def c3 : Code := cR c2
noncomputable def c4 : Code := cL c3
noncomputable def c5 : Code := cL c4
noncomputable def c6 : Code := cL c5
@[simp] def n6 {R : Type} (k : Nat) (G : KT5 R) (v0 v2 v3 v4 v5 : GV) (h : Heap) : Option R := (kslS v0 (some v5) none none).bind fun v12 => (kN NN fn.spec_l16Record [v12] h).bind fun v13 => (kxt 0 v13).bind fun v14 => (kxt 1 v13).bind fun v15 => (kbin .eql v15 (.int .i64 0)).bind fun v17 => kcond v17 (G .ret v0 v4 v5 v4 v5 h) ((gfill (fun i => some (i * 1, 1)) (zeros [(.str { data := #[] })] 1) [(0, v14)]).bind fun c => kbs 1 1 c h fun v22 h => (kapp [(.str { data := #[] })] 1 16 v4 v22 h).bind fun r => kr r fun v23 h => (kbin .add v5 v15).bind fun v26 => G .nrm v0 v2 v3 v23 v26 h)
theorem n6_eq {R : Type} (k : Nat) (G : KT5 R) (σ : GS) (h : Heap) : KC k 27 c6 σ h (fun x σ h => G x (σ 0) (σ 2) (σ 3) (σ 4) (σ 5) h) = n6 k G (σ 0) (σ 2) (σ 3) (σ 4) (σ 5) h := by kernel_rfl
@[simp] def n5 {R : Type} (k : Nat) (G : KT5 R) (v0 v2 v3 v4 v5 : GV) (h : Heap) : Option R := n6 k (fun x v0 v2 v3 v4 v5 h => kb 1 x fun x => G x v0 v2 v3 v4 v5 h) v0 v2 v3 v4 v5 h
theorem n5_eq {R : Type} (k : Nat) (G : KT5 R) (σ : GS) (h : Heap) : KC k 27 c5 σ h (fun x σ h => G x (σ 0) (σ 2) (σ 3) (σ 4) (σ 5) h) = n5 k G (σ 0) (σ 2) (σ 3) (σ 4) (σ 5) h := (kblock_eq (a := c6) rfl).trans (n6_eq k (fun x v0 v2 v3 v4 v5 h => kb 1 x fun x => G x v0 v2 v3 v4 v5 h) σ h)
def l4 {R : Type} (k : Nat) (G : KT2 R) : Nat → GV → GV → GV → GV → GV → Heap → Option R
  | 0, _, _, _, _, _, _ => none
  | r + 1, v0, v2, v3, v4, v5, h => n5 k (fun x v0 v2 v3 v4 v5 h => kx x (l4 k G r v0 v2 v3 v4 v5 h) (G x v2 v3 h)) v0 v2 v3 v4 v5 h
theorem l4_eq {R : Type} (k : Nat) (G : KT2 R) : ∀ (r : Nat) (σ : GS) (h : Heap), kloop (fun σ h K => KC k 27 c5 σ h K) r σ h (fun x σ h => G x (σ 2) (σ 3) h) = l4 k G r (σ 0) (σ 2) (σ 3) (σ 4) (σ 5) h
  | 0, _, _ => rfl
  | r + 1, σ, h => (kloop_eq (fun σ h => l4_eq k G r σ h)).trans (n5_eq k (fun x v0 v2 v3 v4 v5 h => kx x (l4 k G r v0 v2 v3 v4 v5 h) (G x v2 v3 h)) σ h)
@[simp] def n4 {R : Type} (k : Nat) (G : KT2 R) (v0 v2 v3 v4 v5 : GV) (h : Heap) : Option R := l4 k G k v0 v2 v3 v4 v5 h
theorem n4_eq {R : Type} (k : Nat) (G : KT2 R) (σ : GS) (h : Heap) : KC k 27 c4 σ h (fun x σ h => G x (σ 2) (σ 3) h) = n4 k G (σ 0) (σ 2) (σ 3) (σ 4) (σ 5) h := (kloopc_eq (a := c5) rfl).trans (l4_eq k G k σ h)
@[simp] def n3 {R : Type} (k : Nat) (G : KT2 R) (v0 v2 v3 v4 v5 : GV) (h : Heap) : Option R := n4 k (fun x v2 v3 h => kb 0 x fun x => G x v2 v3 h) v0 v2 v3 v4 v5 h
theorem n3_eq {R : Type} (k : Nat) (G : KT2 R) (σ : GS) (h : Heap) : KC k 27 c3 σ h (fun x σ h => G x (σ 2) (σ 3) h) = n3 k G (σ 0) (σ 2) (σ 3) (σ 4) (σ 5) h := (kblock_eq (a := c4) rfl).trans (n4_eq k (fun x v2 v3 h => kb 0 x fun x => G x v2 v3 h) σ h)
noncomputable def c7 : Code := cL c2
@[simp] def n2 {R : Type} (k : Nat) (G : KT2 R) (v0 v2 v3 v4 : GV) (h : Heap) : Option R := n3 k G v0 v2 v3 v4 (.int .i64 0) h
theorem n2_eq0 {R : Type} (k : Nat) (G : KT2 R) (σ : GS) (h : Heap) : KC k 27 c7 σ h (fun x σ h => kx x (n3 k G (σ 0) (σ 2) (σ 3) (σ 4) (σ 5) h) (G x (σ 2) (σ 3) h)) = n2 k G (σ 0) (σ 2) (σ 3) (σ 4) h := by kernel_rfl
theorem n2_eq {R : Type} (k : Nat) (G : KT2 R) (σ : GS) (h : Heap) : KC k 27 c2 σ h (fun x σ h => G x (σ 2) (σ 3) h) = n2 k G (σ 0) (σ 2) (σ 3) (σ 4) h := (kseq (b := c3) rfl (fun σ h => n3_eq k G σ h)).trans (n2_eq0 k G σ h)
noncomputable def c8 : Code := cL c1
@[simp] def n1 {R : Type} (k : Nat) (G : KT2 R) (v0 v2 v3 : GV) (h : Heap) : Option R := n2 k G v0 v2 v3 .emp h
theorem n1_eq0 {R : Type} (k : Nat) (G : KT2 R) (σ : GS) (h : Heap) : KC k 27 c8 σ h (fun x σ h => kx x (n2 k G (σ 0) (σ 2) (σ 3) (σ 4) h) (G x (σ 2) (σ 3) h)) = n1 k G (σ 0) (σ 2) (σ 3) h := by kernel_rfl
theorem n1_eq {R : Type} (k : Nat) (G : KT2 R) (σ : GS) (h : Heap) : KC k 27 c1 σ h (fun x σ h => G x (σ 2) (σ 3) h) = n1 k G (σ 0) (σ 2) (σ 3) h := (kseq (b := c2) rfl (fun σ h => n2_eq k G σ h)).trans (n1_eq0 k G σ h)
noncomputable def c9 : Code := cL c0
@[simp] def n0 {R : Type} (k : Nat) (G : KT2 R) (v0 : GV) (h : Heap) : Option R := n1 k G v0 .nils (.int .i64 0) h
theorem n0_eq0 {R : Type} (k : Nat) (G : KT2 R) (σ : GS) (h : Heap) : KC k 27 c9 σ h (fun x σ h => kx x (n1 k G (σ 0) (σ 2) (σ 3) h) (G x (σ 2) (σ 3) h)) = n0 k G (σ 0) h := by kernel_rfl
theorem n0_eq {R : Type} (k : Nat) (G : KT2 R) (σ : GS) (h : Heap) : KC k 27 c0 σ h (fun x σ h => G x (σ 2) (σ 3) h) = n0 k G (σ 0) h := (kseq (b := c1) rfl (fun σ h => n1_eq k G σ h)).trans (n0_eq0 k G σ h)
def run {R : Type} (k : Nat) (a0 : GV) (h : Heap) (fin : GV → Heap → Option R) : Option R := n0 k (fun x v2 v3 h => kend x (fin (.tup [v2, v3]) h)) a0 h
theorem run_eq {R : Type} (k : Nat) (a0 : GV) (h : Heap) (fin : GV → Heap → Option R) : kfun PP cfg NN HH k fn.spec_Records [a0] h fin = run k a0 h fin := (kfun_eq (nt := 27) (c := c0) (show PP.funcs[fn.spec_Records]? = some Tryd.f24 by kernel_rfl) (by kernel_rfl) (by kernel_rfl) (fun x σ h => by cases x <;> kernel_rfl)).trans (n0_eq k (fun x v2 v3 h => kend x (fin (.tup [v2, v3]) h)) _ h)
theorem gives {k : Nat} {a0 : GV} {v : GV} (e : run k a0 [] finN = some v) : NN fn.spec_Records [a0] = some v := nω_of (by kernel_rfl) ((run_eq k a0 [] finN).trans e)
end S.spec_Records
/-! laws_eqStringS -/
namespace S.laws_eqStringS
noncomputable def c0 : Code := bodyOf Tryd.f26
noncomputable def c1 : Code := cR c0
noncomputable def c2 : Code := cR c1
noncomputable def c3 : Code := cR c2
@[simp] def n3 {R : Type} (k : Nat) (G : KT1 R) (h : Heap) : Option R := G .ret (.bool true) h
theorem n3_eq {R : Type} (k : Nat) (G : KT1 R) (σ : GS) (h : Heap) : KC k 26 c3 σ h (fun x σ h => G x (σ 4) h) = n3 k G h := by kernel_rfl
noncomputable def c4 : Code := cL c2
noncomputable def c5 : Code := cR c4
noncomputable def c6 : Code := cL c5
noncomputable def c7 : Code := cL c6
noncomputable def c8 : Code := cR c7
noncomputable def c9 : Code := cR c8
@[simp] def n9 {R : Type} (k : Nat) (G : KT4 R) (v0 v1 v4 v5 : GV) (h : Heap) : Option R := (kbin .add v5 (.int .i64 1)).bind fun v16 => G .nrm v0 v1 v4 v16 h
theorem n9_eq {R : Type} (k : Nat) (G : KT4 R) (σ : GS) (h : Heap) : KC k 26 c9 σ h (fun x σ h => G x (σ 0) (σ 1) (σ 4) (σ 5) h) = n9 k G (σ 0) (σ 1) (σ 4) (σ 5) h := by kernel_rfl
noncomputable def c10 : Code := cL c8
noncomputable def c11 : Code := cL c10
@[simp] def n11 {R : Type} (k : Nat) (G : KT4 R) (v0 v1 v4 v5 : GV) (h : Heap) : Option R := (kia 1 v0 v5).bind fun v19 => (kload1 h v19).bind fun v20 => (kia 1 v1 v5).bind fun v23 => (kload1 h v23).bind fun v24 => (kbin .neq v20 v24).bind fun v25 => kcond v25 (G .ret v0 v1 (.bool false) v5 h) (G .nrm v0 v1 v4 v5 h)
theorem n11_eq {R : Type} (k : Nat) (G : KT4 R) (σ : GS) (h : Heap) : KC k 26 c11 σ h (fun x σ h => G x (σ 0) (σ 1) (σ 4) (σ 5) h) = n11 k G (σ 0) (σ 1) (σ 4) (σ 5) h := by kernel_rfl
@[simp] def n10 {R : Type} (k : Nat) (G : KT4 R) (v0 v1 v4 v5 : GV) (h : Heap) : Option R := n11 k (fun x v0 v1 v4 v5 h => kb 1 x fun x => G x v0 v1 v4 v5 h) v0 v1 v4 v5 h
theorem n10_eq {R : Type} (k : Nat) (G : KT4 R) (σ : GS) (h : Heap) : KC k 26 c10 σ h (fun x σ h => G x (σ 0) (σ 1) (σ 4) (σ 5) h) = n10 k G (σ 0) (σ 1) (σ 4) (σ 5) h := (kblock_eq (a := c11) rfl).trans (n11_eq k (fun x v0 v1 v4 v5 h => kb 1 x fun x => G x v0 v1 v4 v5 h) σ h)
@[simp] def n8 {R : Type} (k : Nat) (G : KT4 R) (v0 v1 v4 v5 : GV) (h : Heap) : Option R := n10 k (fun x v0 v1 v4 v5 h => kx x (n9 k G v0 v1 v4 v5 h) (G x v0 v1 v4 v5 h)) v0 v1 v4 v5 h
theorem n8_eq {R : Type} (k : Nat) (G : KT4 R) (σ : GS) (h : Heap) : KC k 26 c8 σ h (fun x σ h => G x (σ 0) (σ 1) (σ 4) (σ 5) h) = n8 k G (σ 0) (σ 1) (σ 4) (σ 5) h := (kseq (b := c9) rfl (fun σ h => n9_eq k G σ h)).trans (n10_eq k (fun x v0 v1 v4 v5 h => kx x (n9 k G v0 v1 v4 v5 h) (G x v0 v1 v4 v5 h)) σ h)
noncomputable def c12 : Code := cL c7
@[simp] def n7 {R : Type} (k : Nat) (G : KT4 R) (v0 v1 v4 v5 : GV) (h : Heap) : Option R := (klen v0).bind fun v13 => (kbin .lss v5 v13).bind fun v14 => kcond v14 (n8 k G v0 v1 v4 v5 h) (G (.ext 0) v0 v1 v4 v5 h)
theorem n7_eq0 {R : Type} (k : Nat) (G : KT4 R) (σ : GS) (h : Heap) : KC k 26 c12 σ h (fun x σ h => kx x (n8 k G (σ 0) (σ 1) (σ 4) (σ 5) h) (G x (σ 0) (σ 1) (σ 4) (σ 5) h)) = n7 k G (σ 0) (σ 1) (σ 4) (σ 5) h := by kernel_rfl
theorem n7_eq {R : Type} (k : Nat) (G : KT4 R) (σ : GS) (h : Heap) : KC k 26 c7 σ h (fun x σ h => G x (σ 0) (σ 1) (σ 4) (σ 5) h) = n7 k G (σ 0) (σ 1) (σ 4) (σ 5) h := (kseq (b := c8) rfl (fun σ h => n8_eq k G σ h)).trans (n7_eq0 k G σ h)
def l6 {R : Type} (k : Nat) (G : KT1 R) : Nat → GV → GV → GV → GV → Heap → Option R
  | 0, _, _, _, _, _ => none
  | r + 1, v0, v1, v4, v5, h => n7 k (fun x v0 v1 v4 v5 h => kx x (l6 k G r v0 v1 v4 v5 h) (G x v4 h)) v0 v1 v4 v5 h
theorem l6_eq {R : Type} (k : Nat) (G : KT1 R) : ∀ (r : Nat) (σ : GS) (h : Heap), kloop (fun σ h K => KC k 26 c7 σ h K) r σ h (fun x σ h => G x (σ 4) h) = l6 k G r (σ 0) (σ 1) (σ 4) (σ 5) h
  | 0, _, _ => rfl
  | r + 1, σ, h => (kloop_eq (fun σ h => l6_eq k G r σ h)).trans (n7_eq k (fun x v0 v1 v4 v5 h => kx x (l6 k G r v0 v1 v4 v5 h) (G x v4 h)) σ h)
@[simp] def n6 {R : Type} (k : Nat) (G : KT1 R) (v0 v1 v4 v5 : GV) (h : Heap) : Option R := l6 k G k v0 v1 v4 v5 h
theorem n6_eq {R : Type} (k : Nat) (G : KT1 R) (σ : GS) (h : Heap) : KC k 26 c6 σ h (fun x σ h => G x (σ 4) h) = n6 k G (σ 0) (σ 1) (σ 4) (σ 5) h := (kloopc_eq (a := c7) rfl).trans (l6_eq k G k σ h)
@[simp] def n5 {R : Type} (k : Nat) (G : KT1 R) (v0 v1 v4 v5 : GV) (h : Heap) : Option R := n6 k (fun x v4 h => kb 0 x fun x => G x v4 h) v0 v1 v4 v5 h
theorem n5_eq {R : Type} (k : Nat) (G : KT1 R) (σ : GS) (h : Heap) : KC k 26 c5 σ h (fun x σ h => G x (σ 4) h) = n5 k G (σ 0) (σ 1) (σ 4) (σ 5) h := (kblock_eq (a := c6) rfl).trans (n6_eq k (fun x v4 h => kb 0 x fun x => G x v4 h) σ h)
noncomputable def c13 : Code := cL c4
@[simp] def n4 {R : Type} (k : Nat) (G : KT1 R) (v0 v1 v4 : GV) (h : Heap) : Option R := n5 k G v0 v1 v4 (.int .i64 0) h
theorem n4_eq0 {R : Type} (k : Nat) (G : KT1 R) (σ : GS) (h : Heap) : KC k 26 c13 σ h (fun x σ h => kx x (n5 k G (σ 0) (σ 1) (σ 4) (σ 5) h) (G x (σ 4) h)) = n4 k G (σ 0) (σ 1) (σ 4) h := by kernel_rfl
theorem n4_eq {R : Type} (k : Nat) (G : KT1 R) (σ : GS) (h : Heap) : KC k 26 c4 σ h (fun x σ h => G x (σ 4) h) = n4 k G (σ 0) (σ 1) (σ 4) h := (kseq (b := c5) rfl (fun σ h => n5_eq k G σ h)).trans (n4_eq0 k G σ h)
@[simp] def n2 {R : Type} (k : Nat) (G : KT1 R) (v0 v1 v4 : GV) (h : Heap) : Option R := n4 k (fun x v4 h => kx x (n3 k G h) (G x v4 h)) v0 v1 v4 h
theorem n2_eq {R : Type} (k : Nat) (G : KT1 R) (σ : GS) (h : Heap) : KC k 26 c2 σ h (fun x σ h => G x (σ 4) h) = n2 k G (σ 0) (σ 1) (σ 4) h := (kseq (b := c3) rfl (fun σ h => n3_eq k G σ h)).trans (n4_eq k (fun x v4 h => kx x (n3 k G h) (G x v4 h)) σ h)
noncomputable def c14 : Code := cL c1
@[simp] def n1 {R : Type} (k : Nat) (G : KT1 R) (v0 v1 v4 : GV) (h : Heap) : Option R := (klen v0).bind fun v7 => (klen v1).bind fun v9 => (kbin .neq v7 v9).bind fun v10 => kcond v10 (G .ret (.bool false) h) (n2 k G v0 v1 v4 h)
theorem n1_eq0 {R : Type} (k : Nat) (G : KT1 R) (σ : GS) (h : Heap) : KC k 26 c14 σ h (fun x σ h => kx x (n2 k G (σ 0) (σ 1) (σ 4) h) (G x (σ 4) h)) = n1 k G (σ 0) (σ 1) (σ 4) h := by kernel_rfl
theorem n1_eq {R : Type} (k : Nat) (G : KT1 R) (σ : GS) (h : Heap) : KC k 26 c1 σ h (fun x σ h => G x (σ 4) h) = n1 k G (σ 0) (σ 1) (σ 4) h := (kseq (b := c2) rfl (fun σ h => n2_eq k G σ h)).trans (n1_eq0 k G σ h)
noncomputable def c15 : Code := cL c0
@[simp] def n0 {R : Type} (k : Nat) (G : KT1 R) (v0 v1 : GV) (h : Heap) : Option R := n1 k G v0 v1 (.bool false) h
theorem n0_eq0 {R : Type} (k : Nat) (G : KT1 R) (σ : GS) (h : Heap) : KC k 26 c15 σ h (fun x σ h => kx x (n1 k G (σ 0) (σ 1) (σ 4) h) (G x (σ 4) h)) = n0 k G (σ 0) (σ 1) h := by kernel_rfl
theorem n0_eq {R : Type} (k : Nat) (G : KT1 R) (σ : GS) (h : Heap) : KC k 26 c0 σ h (fun x σ h => G x (σ 4) h) = n0 k G (σ 0) (σ 1) h := (kseq (b := c1) rfl (fun σ h => n1_eq k G σ h)).trans (n0_eq0 k G σ h)
def run {R : Type} (k : Nat) (a0 : GV) (a1 : GV) (h : Heap) (fin : GV → Heap → Option R) : Option R := n0 k (fun x v4 h => kend x (fin v4 h)) a0 a1 h
theorem run_eq {R : Type} (k : Nat) (a0 : GV) (a1 : GV) (h : Heap) (fin : GV → Heap → Option R) : kfun PP cfg NN HH k fn.laws_eqStringS [a0, a1] h fin = run k a0 a1 h fin := (kfun_eq (nt := 26) (c := c0) (show PP.funcs[fn.laws_eqStringS]? = some Tryd.f26 by kernel_rfl) (by kernel_rfl) (by kernel_rfl) (fun x σ h => by cases x <;> kernel_rfl)).trans (n0_eq k (fun x v4 h => kend x (fin v4 h)) _ h)
theorem gives {k : Nat} {a0 : GV} {a1 : GV} {v : GV} (e : run k a0 a1 [] finN = some v) : NN fn.laws_eqStringS [a0, a1] = some v := nω_of (by kernel_rfl) ((run_eq k a0 a1 [] finN).trans e)
end S.laws_eqStringS
/-! laws_markStringS -/
namespace S.laws_markStringS
noncomputable def c0 : Code := bodyOf Tryd.f27
noncomputable def c1 : Code := cR c0
noncomputable def c2 : Code := cR c1
@[simp] def n2 {R : Type} (k : Nat) (G : KT1 R) (v1 : GV) (h : Heap) : Option R := G .ret v1 h
theorem n2_eq {R : Type} (k : Nat) (G : KT1 R) (σ : GS) (h : Heap) : KC k 20 c2 σ h (fun x σ h => G x (σ 4) h) = n2 k G (σ 1) h := by kernel_rfl
noncomputable def c3 : Code := cL c1
noncomputable def c4 : Code := cR c3
noncomputable def c5 : Code := cL c4
noncomputable def c6 : Code := cL c5
noncomputable def c7 : Code := cR c6
noncomputable def c8 : Code := cR c7
@[simp] def n8 {R : Type} (k : Nat) (G : KT4 R) (v0 v1 v4 v5 : GV) (h : Heap) : Option R := (kbin .add v5 (.int .i64 1)).bind fun v11 => G .nrm v0 v1 v4 v11 h
theorem n8_eq {R : Type} (k : Nat) (G : KT4 R) (σ : GS) (h : Heap) : KC k 20 c8 σ h (fun x σ h => G x (σ 0) (σ 1) (σ 4) (σ 5) h) = n8 k G (σ 0) (σ 1) (σ 4) (σ 5) h := by kernel_rfl
noncomputable def c9 : Code := cL c7
noncomputable def c10 : Code := cL c9
@[simp] def n10 {R : Type} (k : Nat) (G : KT4 R) (v0 v1 v4 v5 : GV) (h : Heap) : Option R := (kN NN fn.laws_markText [v1] h).bind fun v15 => (kia 1 v0 v5).bind fun v16 => (kstore 1 h v16 v15).bind fun h => (kbin .add v1 (.int .i64 1)).bind fun v18 => G .nrm v0 v18 v4 v5 h
theorem n10_eq {R : Type} (k : Nat) (G : KT4 R) (σ : GS) (h : Heap) : KC k 20 c10 σ h (fun x σ h => G x (σ 0) (σ 1) (σ 4) (σ 5) h) = n10 k G (σ 0) (σ 1) (σ 4) (σ 5) h := by kernel_rfl
@[simp] def n9 {R : Type} (k : Nat) (G : KT4 R) (v0 v1 v4 v5 : GV) (h : Heap) : Option R := n10 k (fun x v0 v1 v4 v5 h => kb 1 x fun x => G x v0 v1 v4 v5 h) v0 v1 v4 v5 h
theorem n9_eq {R : Type} (k : Nat) (G : KT4 R) (σ : GS) (h : Heap) : KC k 20 c9 σ h (fun x σ h => G x (σ 0) (σ 1) (σ 4) (σ 5) h) = n9 k G (σ 0) (σ 1) (σ 4) (σ 5) h := (kblock_eq (a := c10) rfl).trans (n10_eq k (fun x v0 v1 v4 v5 h => kb 1 x fun x => G x v0 v1 v4 v5 h) σ h)
@[simp] def n7 {R : Type} (k : Nat) (G : KT4 R) (v0 v1 v4 v5 : GV) (h : Heap) : Option R := n9 k (fun x v0 v1 v4 v5 h => kx x (n8 k G v0 v1 v4 v5 h) (G x v0 v1 v4 v5 h)) v0 v1 v4 v5 h
theorem n7_eq {R : Type} (k : Nat) (G : KT4 R) (σ : GS) (h : Heap) : KC k 20 c7 σ h (fun x σ h => G x (σ 0) (σ 1) (σ 4) (σ 5) h) = n7 k G (σ 0) (σ 1) (σ 4) (σ 5) h := (kseq (b := c8) rfl (fun σ h => n8_eq k G σ h)).trans (n9_eq k (fun x v0 v1 v4 v5 h => kx x (n8 k G v0 v1 v4 v5 h) (G x v0 v1 v4 v5 h)) σ h)
noncomputable def c11 : Code := cL c6
@[simp] def n6 {R : Type} (k : Nat) (G : KT4 R) (v0 v1 v4 v5 : GV) (h : Heap) : Option R := (klen v0).bind fun v8 => (kbin .lss v5 v8).bind fun v9 => kcond v9 (n7 k G v0 v1 v4 v5 h) (G (.ext 0) v0 v1 v4 v5 h)
theorem n6_eq0 {R : Type} (k : Nat) (G : KT4 R) (σ : GS) (h : Heap) : KC k 20 c11 σ h (fun x σ h => kx x (n7 k G (σ 0) (σ 1) (σ 4) (σ 5) h) (G x (σ 0) (σ 1) (σ 4) (σ 5) h)) = n6 k G (σ 0) (σ 1) (σ 4) (σ 5) h := by kernel_rfl
theorem n6_eq {R : Type} (k : Nat) (G : KT4 R) (σ : GS) (h : Heap) : KC k 20 c6 σ h (fun x σ h => G x (σ 0) (σ 1) (σ 4) (σ 5) h) = n6 k G (σ 0) (σ 1) (σ 4) (σ 5) h := (kseq (b := c7) rfl (fun σ h => n7_eq k G σ h)).trans (n6_eq0 k G σ h)
def l5 {R : Type} (k : Nat) (G : KT2 R) : Nat → GV → GV → GV → GV → Heap → Option R
  | 0, _, _, _, _, _ => none
  | r + 1, v0, v1, v4, v5, h => n6 k (fun x v0 v1 v4 v5 h => kx x (l5 k G r v0 v1 v4 v5 h) (G x v1 v4 h)) v0 v1 v4 v5 h
theorem l5_eq {R : Type} (k : Nat) (G : KT2 R) : ∀ (r : Nat) (σ : GS) (h : Heap), kloop (fun σ h K => KC k 20 c6 σ h K) r σ h (fun x σ h => G x (σ 1) (σ 4) h) = l5 k G r (σ 0) (σ 1) (σ 4) (σ 5) h
  | 0, _, _ => rfl
  | r + 1, σ, h => (kloop_eq (fun σ h => l5_eq k G r σ h)).trans (n6_eq k (fun x v0 v1 v4 v5 h => kx x (l5 k G r v0 v1 v4 v5 h) (G x v1 v4 h)) σ h)
@[simp] def n5 {R : Type} (k : Nat) (G : KT2 R) (v0 v1 v4 v5 : GV) (h : Heap) : Option R := l5 k G k v0 v1 v4 v5 h
theorem n5_eq {R : Type} (k : Nat) (G : KT2 R) (σ : GS) (h : Heap) : KC k 20 c5 σ h (fun x σ h => G x (σ 1) (σ 4) h) = n5 k G (σ 0) (σ 1) (σ 4) (σ 5) h := (kloopc_eq (a := c6) rfl).trans (l5_eq k G k σ h)
@[simp] def n4 {R : Type} (k : Nat) (G : KT2 R) (v0 v1 v4 v5 : GV) (h : Heap) : Option R := n5 k (fun x v1 v4 h => kb 0 x fun x => G x v1 v4 h) v0 v1 v4 v5 h
theorem n4_eq {R : Type} (k : Nat) (G : KT2 R) (σ : GS) (h : Heap) : KC k 20 c4 σ h (fun x σ h => G x (σ 1) (σ 4) h) = n4 k G (σ 0) (σ 1) (σ 4) (σ 5) h := (kblock_eq (a := c5) rfl).trans (n5_eq k (fun x v1 v4 h => kb 0 x fun x => G x v1 v4 h) σ h)
noncomputable def c12 : Code := cL c3
@[simp] def n3 {R : Type} (k : Nat) (G : KT2 R) (v0 v1 v4 : GV) (h : Heap) : Option R := n4 k G v0 v1 v4 (.int .i64 0) h
theorem n3_eq0 {R : Type} (k : Nat) (G : KT2 R) (σ : GS) (h : Heap) : KC k 20 c12 σ h (fun x σ h => kx x (n4 k G (σ 0) (σ 1) (σ 4) (σ 5) h) (G x (σ 1) (σ 4) h)) = n3 k G (σ 0) (σ 1) (σ 4) h := by kernel_rfl
theorem n3_eq {R : Type} (k : Nat) (G : KT2 R) (σ : GS) (h : Heap) : KC k 20 c3 σ h (fun x σ h => G x (σ 1) (σ 4) h) = n3 k G (σ 0) (σ 1) (σ 4) h := (kseq (b := c4) rfl (fun σ h => n4_eq k G σ h)).trans (n3_eq0 k G σ h)
@[simp] def n1 {R : Type} (k : Nat) (G : KT1 R) (v0 v1 v4 : GV) (h : Heap) : Option R := n3 k (fun x v1 v4 h => kx x (n2 k G v1 h) (G x v4 h)) v0 v1 v4 h
theorem n1_eq {R : Type} (k : Nat) (G : KT1 R) (σ : GS) (h : Heap) : KC k 20 c1 σ h (fun x σ h => G x (σ 4) h) = n1 k G (σ 0) (σ 1) (σ 4) h := (kseq (b := c2) rfl (fun σ h => n2_eq k G σ h)).trans (n3_eq k (fun x v1 v4 h => kx x (n2 k G v1 h) (G x v4 h)) σ h)
noncomputable def c13 : Code := cL c0
@[simp] def n0 {R : Type} (k : Nat) (G : KT1 R) (v0 v1 : GV) (h : Heap) : Option R := n1 k G v0 v1 (.int .i64 0) h
theorem n0_eq0 {R : Type} (k : Nat) (G : KT1 R) (σ : GS) (h : Heap) : KC k 20 c13 σ h (fun x σ h => kx x (n1 k G (σ 0) (σ 1) (σ 4) h) (G x (σ 4) h)) = n0 k G (σ 0) (σ 1) h := by kernel_rfl
theorem n0_eq {R : Type} (k : Nat) (G : KT1 R) (σ : GS) (h : Heap) : KC k 20 c0 σ h (fun x σ h => G x (σ 4) h) = n0 k G (σ 0) (σ 1) h := (kseq (b := c1) rfl (fun σ h => n1_eq k G σ h)).trans (n0_eq0 k G σ h)
def run {R : Type} (k : Nat) (a0 : GV) (a1 : GV) (h : Heap) (fin : GV → Heap → Option R) : Option R := n0 k (fun x v4 h => kend x (fin v4 h)) a0 a1 h
theorem run_eq {R : Type} (k : Nat) (a0 : GV) (a1 : GV) (h : Heap) (fin : GV → Heap → Option R) : kfun PP cfg NN HH k fn.laws_markStringS [a0, a1] h fin = run k a0 a1 h fin := (kfun_eq (nt := 20) (c := c0) (show PP.funcs[fn.laws_markStringS]? = some Tryd.f27 by kernel_rfl) (by kernel_rfl) (by kernel_rfl) (fun x σ h => by cases x <;> kernel_rfl)).trans (n0_eq k (fun x v4 h => kend x (fin v4 h)) _ h)
theorem gives {k : Nat} {a0 : GV} {a1 : GV} {h : Heap} {r : GV × Heap} (e : run k a0 a1 h finH = some r) : HH fn.laws_markStringS [a0, a1] h = some r := kω_of ((run_eq k a0 a1 h finH).trans e)
end S.laws_markStringS
/-! laws_heldStringS -/
namespace S.laws_heldStringS
noncomputable def c0 : Code := bodyOf Tryd.f28
noncomputable def c1 : Code := cR c0
noncomputable def c2 : Code := cR c1
@[simp] def n2 {R : Type} (k : Nat) (G : KT1 R) (v1 : GV) (h : Heap) : Option R := G .ret v1 h
theorem n2_eq {R : Type} (k : Nat) (G : KT1 R) (σ : GS) (h : Heap) : KC k 22 c2 σ h (fun x σ h => G x (σ 4) h) = n2 k G (σ 1) h := by kernel_rfl
noncomputable def c3 : Code := cL c1
noncomputable def c4 : Code := cR c3
noncomputable def c5 : Code := cL c4
noncomputable def c6 : Code := cL c5
noncomputable def c7 : Code := cR c6
noncomputable def c8 : Code := cR c7
@[simp] def n8 {R : Type} (k : Nat) (G : KT4 R) (v0 v1 v4 v5 : GV) (h : Heap) : Option R := (kbin .add v5 (.int .i64 1)).bind fun v11 => G .nrm v0 v1 v4 v11 h
theorem n8_eq {R : Type} (k : Nat) (G : KT4 R) (σ : GS) (h : Heap) : KC k 22 c8 σ h (fun x σ h => G x (σ 0) (σ 1) (σ 4) (σ 5) h) = n8 k G (σ 0) (σ 1) (σ 4) (σ 5) h := by kernel_rfl
noncomputable def c9 : Code := cL c7
noncomputable def c10 : Code := cL c9
@[simp] def n10 {R : Type} (k : Nat) (G : KT4 R) (v0 v1 v4 v5 : GV) (h : Heap) : Option R := (kia 1 v0 v5).bind fun v14 => (kload1 h v14).bind fun v15 => (kN NN fn.laws_markText [v1] h).bind fun v17 => (kbin .neq v15 v17).bind fun v18 => kcond v18 (G .ret v0 v1 (.int .i64 (-1)) v5 h) ((kbin .add v1 (.int .i64 1)).bind fun v20 => G .nrm v0 v20 v4 v5 h)
theorem n10_eq {R : Type} (k : Nat) (G : KT4 R) (σ : GS) (h : Heap) : KC k 22 c10 σ h (fun x σ h => G x (σ 0) (σ 1) (σ 4) (σ 5) h) = n10 k G (σ 0) (σ 1) (σ 4) (σ 5) h := by kernel_rfl
@[simp] def n9 {R : Type} (k : Nat) (G : KT4 R) (v0 v1 v4 v5 : GV) (h : Heap) : Option R := n10 k (fun x v0 v1 v4 v5 h => kb 1 x fun x => G x v0 v1 v4 v5 h) v0 v1 v4 v5 h
theorem n9_eq {R : Type} (k : Nat) (G : KT4 R) (σ : GS) (h : Heap) : KC k 22 c9 σ h (fun x σ h => G x (σ 0) (σ 1) (σ 4) (σ 5) h) = n9 k G (σ 0) (σ 1) (σ 4) (σ 5) h := (kblock_eq (a := c10) rfl).trans (n10_eq k (fun x v0 v1 v4 v5 h => kb 1 x fun x => G x v0 v1 v4 v5 h) σ h)
@[simp] def n7 {R : Type} (k : Nat) (G : KT4 R) (v0 v1 v4 v5 : GV) (h : Heap) : Option R := n9 k (fun x v0 v1 v4 v5 h => kx x (n8 k G v0 v1 v4 v5 h) (G x v0 v1 v4 v5 h)) v0 v1 v4 v5 h
theorem n7_eq {R : Type} (k : Nat) (G : KT4 R) (σ : GS) (h : Heap) : KC k 22 c7 σ h (fun x σ h => G x (σ 0) (σ 1) (σ 4) (σ 5) h) = n7 k G (σ 0) (σ 1) (σ 4) (σ 5) h := (kseq (b := c8) rfl (fun σ h => n8_eq k G σ h)).trans (n9_eq k (fun x v0 v1 v4 v5 h => kx x (n8 k G v0 v1 v4 v5 h) (G x v0 v1 v4 v5 h)) σ h)
noncomputable def c11 : Code := cL c6
@[simp] def n6 {R : Type} (k : Nat) (G : KT4 R) (v0 v1 v4 v5 : GV) (h : Heap) : Option R := (klen v0).bind fun v8 => (kbin .lss v5 v8).bind fun v9 => kcond v9 (n7 k G v0 v1 v4 v5 h) (G (.ext 0) v0 v1 v4 v5 h)
theorem n6_eq0 {R : Type} (k : Nat) (G : KT4 R) (σ : GS) (h : Heap) : KC k 22 c11 σ h (fun x σ h => kx x (n7 k G (σ 0) (σ 1) (σ 4) (σ 5) h) (G x (σ 0) (σ 1) (σ 4) (σ 5) h)) = n6 k G (σ 0) (σ 1) (σ 4) (σ 5) h := by kernel_rfl
theorem n6_eq {R : Type} (k : Nat) (G : KT4 R) (σ : GS) (h : Heap) : KC k 22 c6 σ h (fun x σ h => G x (σ 0) (σ 1) (σ 4) (σ 5) h) = n6 k G (σ 0) (σ 1) (σ 4) (σ 5) h := (kseq (b := c7) rfl (fun σ h => n7_eq k G σ h)).trans (n6_eq0 k G σ h)
def l5 {R : Type} (k : Nat) (G : KT2 R) : Nat → GV → GV → GV → GV → Heap → Option R
  | 0, _, _, _, _, _ => none
  | r + 1, v0, v1, v4, v5, h => n6 k (fun x v0 v1 v4 v5 h => kx x (l5 k G r v0 v1 v4 v5 h) (G x v1 v4 h)) v0 v1 v4 v5 h
theorem l5_eq {R : Type} (k : Nat) (G : KT2 R) : ∀ (r : Nat) (σ : GS) (h : Heap), kloop (fun σ h K => KC k 22 c6 σ h K) r σ h (fun x σ h => G x (σ 1) (σ 4) h) = l5 k G r (σ 0) (σ 1) (σ 4) (σ 5) h
  | 0, _, _ => rfl
  | r + 1, σ, h => (kloop_eq (fun σ h => l5_eq k G r σ h)).trans (n6_eq k (fun x v0 v1 v4 v5 h => kx x (l5 k G r v0 v1 v4 v5 h) (G x v1 v4 h)) σ h)
@[simp] def n5 {R : Type} (k : Nat) (G : KT2 R) (v0 v1 v4 v5 : GV) (h : Heap) : Option R := l5 k G k v0 v1 v4 v5 h
theorem n5_eq {R : Type} (k : Nat) (G : KT2 R) (σ : GS) (h : Heap) : KC k 22 c5 σ h (fun x σ h => G x (σ 1) (σ 4) h) = n5 k G (σ 0) (σ 1) (σ 4) (σ 5) h := (kloopc_eq (a := c6) rfl).trans (l5_eq k G k σ h)
@[simp] def n4 {R : Type} (k : Nat) (G : KT2 R) (v0 v1 v4 v5 : GV) (h : Heap) : Option R := n5 k (fun x v1 v4 h => kb 0 x fun x => G x v1 v4 h) v0 v1 v4 v5 h
theorem n4_eq {R : Type} (k : Nat) (G : KT2 R) (σ : GS) (h : Heap) : KC k 22 c4 σ h (fun x σ h => G x (σ 1) (σ 4) h) = n4 k G (σ 0) (σ 1) (σ 4) (σ 5) h := (kblock_eq (a := c5) rfl).trans (n5_eq k (fun x v1 v4 h => kb 0 x fun x => G x v1 v4 h) σ h)
noncomputable def c12 : Code := cL c3
@[simp] def n3 {R : Type} (k : Nat) (G : KT2 R) (v0 v1 v4 : GV) (h : Heap) : Option R := n4 k G v0 v1 v4 (.int .i64 0) h
theorem n3_eq0 {R : Type} (k : Nat) (G : KT2 R) (σ : GS) (h : Heap) : KC k 22 c12 σ h (fun x σ h => kx x (n4 k G (σ 0) (σ 1) (σ 4) (σ 5) h) (G x (σ 1) (σ 4) h)) = n3 k G (σ 0) (σ 1) (σ 4) h := by kernel_rfl
theorem n3_eq {R : Type} (k : Nat) (G : KT2 R) (σ : GS) (h : Heap) : KC k 22 c3 σ h (fun x σ h => G x (σ 1) (σ 4) h) = n3 k G (σ 0) (σ 1) (σ 4) h := (kseq (b := c4) rfl (fun σ h => n4_eq k G σ h)).trans (n3_eq0 k G σ h)
@[simp] def n1 {R : Type} (k : Nat) (G : KT1 R) (v0 v1 v4 : GV) (h : Heap) : Option R := n3 k (fun x v1 v4 h => kx x (n2 k G v1 h) (G x v4 h)) v0 v1 v4 h
theorem n1_eq {R : Type} (k : Nat) (G : KT1 R) (σ : GS) (h : Heap) : KC k 22 c1 σ h (fun x σ h => G x (σ 4) h) = n1 k G (σ 0) (σ 1) (σ 4) h := (kseq (b := c2) rfl (fun σ h => n2_eq k G σ h)).trans (n3_eq k (fun x v1 v4 h => kx x (n2 k G v1 h) (G x v4 h)) σ h)
noncomputable def c13 : Code := cL c0
@[simp] def n0 {R : Type} (k : Nat) (G : KT1 R) (v0 v1 : GV) (h : Heap) : Option R := n1 k G v0 v1 (.int .i64 0) h
theorem n0_eq0 {R : Type} (k : Nat) (G : KT1 R) (σ : GS) (h : Heap) : KC k 22 c13 σ h (fun x σ h => kx x (n1 k G (σ 0) (σ 1) (σ 4) h) (G x (σ 4) h)) = n0 k G (σ 0) (σ 1) h := by kernel_rfl
theorem n0_eq {R : Type} (k : Nat) (G : KT1 R) (σ : GS) (h : Heap) : KC k 22 c0 σ h (fun x σ h => G x (σ 4) h) = n0 k G (σ 0) (σ 1) h := (kseq (b := c1) rfl (fun σ h => n1_eq k G σ h)).trans (n0_eq0 k G σ h)
def run {R : Type} (k : Nat) (a0 : GV) (a1 : GV) (h : Heap) (fin : GV → Heap → Option R) : Option R := n0 k (fun x v4 h => kend x (fin v4 h)) a0 a1 h
theorem run_eq {R : Type} (k : Nat) (a0 : GV) (a1 : GV) (h : Heap) (fin : GV → Heap → Option R) : kfun PP cfg NN HH k fn.laws_heldStringS [a0, a1] h fin = run k a0 a1 h fin := (kfun_eq (nt := 22) (c := c0) (show PP.funcs[fn.laws_heldStringS]? = some Tryd.f28 by kernel_rfl) (by kernel_rfl) (by kernel_rfl) (fun x σ h => by cases x <;> kernel_rfl)).trans (n0_eq k (fun x v4 h => kend x (fin v4 h)) _ h)
theorem gives {k : Nat} {a0 : GV} {a1 : GV} {v : GV} (e : run k a0 a1 [] finN = some v) : NN fn.laws_heldStringS [a0, a1] = some v := nω_of (by kernel_rfl) ((run_eq k a0 a1 [] finN).trans e)
end S.laws_heldStringS
/-! laws_markText -/
namespace S.laws_markText
noncomputable def c0 : Code := bodyOf Tryd.f81
noncomputable def c1 : Code := cR c0
noncomputable def c2 : Code := cR c1
noncomputable def c3 : Code := cR c2
noncomputable def c4 : Code := cR c3
@[simp] def n4 {R : Type} (k : Nat) (G : KT1 R) (v3 : GV) (h : Heap) : Option R := (kbin .add (.str { data := #[109] }) v3).bind fun v19 => G .ret v19 h
theorem n4_eq {R : Type} (k : Nat) (G : KT1 R) (σ : GS) (h : Heap) : KC k 20 c4 σ h (fun x σ h => G x (σ 2) h) = n4 k G (σ 3) h := by kernel_rfl
noncomputable def c5 : Code := cL c3
noncomputable def c6 : Code := cL c5
noncomputable def c7 : Code := cL c6
noncomputable def c8 : Code := cR c7
noncomputable def c9 : Code := cL c8
@[simp] def n9 {R : Type} (k : Nat) (G : KT3 R) (v0 v2 v3 : GV) (h : Heap) : Option R := (kbin .rem v0 (.int .i64 10)).bind fun v9 => (kbin .add (.int .i64 48) v9).bind fun v10 => (kconvI .u8 v10).bind fun v11 => (gfill (fun i => some (i * 1, 1)) (zeros [(.int .u8 0)] 1) [(0, v11)]).bind fun c => kbs 1 1 c h fun v12 h => (kbstr h v12).bind fun v13 => (kbin .add v13 v3).bind fun v15 => (kbin .quo v0 (.int .i64 10)).bind fun v17 => G .nrm v17 v2 v15 h
theorem n9_eq {R : Type} (k : Nat) (G : KT3 R) (σ : GS) (h : Heap) : KC k 20 c9 σ h (fun x σ h => G x (σ 0) (σ 2) (σ 3) h) = n9 k G (σ 0) (σ 2) (σ 3) h := by kernel_rfl
@[simp] def n8 {R : Type} (k : Nat) (G : KT3 R) (v0 v2 v3 : GV) (h : Heap) : Option R := n9 k (fun x v0 v2 v3 h => kb 1 x fun x => G x v0 v2 v3 h) v0 v2 v3 h
theorem n8_eq {R : Type} (k : Nat) (G : KT3 R) (σ : GS) (h : Heap) : KC k 20 c8 σ h (fun x σ h => G x (σ 0) (σ 2) (σ 3) h) = n8 k G (σ 0) (σ 2) (σ 3) h := (kblock_eq (a := c9) rfl).trans (n9_eq k (fun x v0 v2 v3 h => kb 1 x fun x => G x v0 v2 v3 h) σ h)
noncomputable def c10 : Code := cL c7
@[simp] def n7 {R : Type} (k : Nat) (G : KT3 R) (v0 v2 v3 : GV) (h : Heap) : Option R := (kbin .gtr v0 (.int .i64 0)).bind fun v7 => kcond v7 (n8 k G v0 v2 v3 h) (G (.ext 0) v0 v2 v3 h)
theorem n7_eq0 {R : Type} (k : Nat) (G : KT3 R) (σ : GS) (h : Heap) : KC k 20 c10 σ h (fun x σ h => kx x (n8 k G (σ 0) (σ 2) (σ 3) h) (G x (σ 0) (σ 2) (σ 3) h)) = n7 k G (σ 0) (σ 2) (σ 3) h := by kernel_rfl
theorem n7_eq {R : Type} (k : Nat) (G : KT3 R) (σ : GS) (h : Heap) : KC k 20 c7 σ h (fun x σ h => G x (σ 0) (σ 2) (σ 3) h) = n7 k G (σ 0) (σ 2) (σ 3) h := (kseq (b := c8) rfl (fun σ h => n8_eq k G σ h)).trans (n7_eq0 k G σ h)
def l6 {R : Type} (k : Nat) (G : KT2 R) : Nat → GV → GV → GV → Heap → Option R
  | 0, _, _, _, _ => none
  | r + 1, v0, v2, v3, h => n7 k (fun x v0 v2 v3 h => kx x (l6 k G r v0 v2 v3 h) (G x v2 v3 h)) v0 v2 v3 h
theorem l6_eq {R : Type} (k : Nat) (G : KT2 R) : ∀ (r : Nat) (σ : GS) (h : Heap), kloop (fun σ h K => KC k 20 c7 σ h K) r σ h (fun x σ h => G x (σ 2) (σ 3) h) = l6 k G r (σ 0) (σ 2) (σ 3) h
  | 0, _, _ => rfl
  | r + 1, σ, h => (kloop_eq (fun σ h => l6_eq k G r σ h)).trans (n7_eq k (fun x v0 v2 v3 h => kx x (l6 k G r v0 v2 v3 h) (G x v2 v3 h)) σ h)
@[simp] def n6 {R : Type} (k : Nat) (G : KT2 R) (v0 v2 v3 : GV) (h : Heap) : Option R := l6 k G k v0 v2 v3 h
theorem n6_eq {R : Type} (k : Nat) (G : KT2 R) (σ : GS) (h : Heap) : KC k 20 c6 σ h (fun x σ h => G x (σ 2) (σ 3) h) = n6 k G (σ 0) (σ 2) (σ 3) h := (kloopc_eq (a := c7) rfl).trans (l6_eq k G k σ h)
@[simp] def n5 {R : Type} (k : Nat) (G : KT2 R) (v0 v2 v3 : GV) (h : Heap) : Option R := n6 k (fun x v2 v3 h => kb 0 x fun x => G x v2 v3 h) v0 v2 v3 h
theorem n5_eq {R : Type} (k : Nat) (G : KT2 R) (σ : GS) (h : Heap) : KC k 20 c5 σ h (fun x σ h => G x (σ 2) (σ 3) h) = n5 k G (σ 0) (σ 2) (σ 3) h := (kblock_eq (a := c6) rfl).trans (n6_eq k (fun x v2 v3 h => kb 0 x fun x => G x v2 v3 h) σ h)
@[simp] def n3 {R : Type} (k : Nat) (G : KT1 R) (v0 v2 v3 : GV) (h : Heap) : Option R := n5 k (fun x v2 v3 h => kx x (n4 k G v3 h) (G x v2 h)) v0 v2 v3 h
theorem n3_eq {R : Type} (k : Nat) (G : KT1 R) (σ : GS) (h : Heap) : KC k 20 c3 σ h (fun x σ h => G x (σ 2) h) = n3 k G (σ 0) (σ 2) (σ 3) h := (kseq (b := c4) rfl (fun σ h => n4_eq k G σ h)).trans (n5_eq k (fun x v2 v3 h => kx x (n4 k G v3 h) (G x v2 h)) σ h)
noncomputable def c11 : Code := cL c2
@[simp] def n2 {R : Type} (k : Nat) (G : KT1 R) (v0 v2 : GV) (h : Heap) : Option R := n3 k G v0 v2 (.str { data := #[] }) h
theorem n2_eq0 {R : Type} (k : Nat) (G : KT1 R) (σ : GS) (h : Heap) : KC k 20 c11 σ h (fun x σ h => kx x (n3 k G (σ 0) (σ 2) (σ 3) h) (G x (σ 2) h)) = n2 k G (σ 0) (σ 2) h := by kernel_rfl
theorem n2_eq {R : Type} (k : Nat) (G : KT1 R) (σ : GS) (h : Heap) : KC k 20 c2 σ h (fun x σ h => G x (σ 2) h) = n2 k G (σ 0) (σ 2) h := (kseq (b := c3) rfl (fun σ h => n3_eq k G σ h)).trans (n2_eq0 k G σ h)
noncomputable def c12 : Code := cL c1
@[simp] def n1 {R : Type} (k : Nat) (G : KT1 R) (v0 v2 : GV) (h : Heap) : Option R := (kbin .leq v0 (.int .i64 0)).bind fun v5 => kcond v5 (G .ret (.str { data := #[109, 48] }) h) (n2 k G v0 v2 h)
theorem n1_eq0 {R : Type} (k : Nat) (G : KT1 R) (σ : GS) (h : Heap) : KC k 20 c12 σ h (fun x σ h => kx x (n2 k G (σ 0) (σ 2) h) (G x (σ 2) h)) = n1 k G (σ 0) (σ 2) h := by kernel_rfl
theorem n1_eq {R : Type} (k : Nat) (G : KT1 R) (σ : GS) (h : Heap) : KC k 20 c1 σ h (fun x σ h => G x (σ 2) h) = n1 k G (σ 0) (σ 2) h := (kseq (b := c2) rfl (fun σ h => n2_eq k G σ h)).trans (n1_eq0 k G σ h)
noncomputable def c13 : Code := cL c0
@[simp] def n0 {R : Type} (k : Nat) (G : KT1 R) (v0 : GV) (h : Heap) : Option R := n1 k G v0 (.str { data := #[] }) h
theorem n0_eq0 {R : Type} (k : Nat) (G : KT1 R) (σ : GS) (h : Heap) : KC k 20 c13 σ h (fun x σ h => kx x (n1 k G (σ 0) (σ 2) h) (G x (σ 2) h)) = n0 k G (σ 0) h := by kernel_rfl
theorem n0_eq {R : Type} (k : Nat) (G : KT1 R) (σ : GS) (h : Heap) : KC k 20 c0 σ h (fun x σ h => G x (σ 2) h) = n0 k G (σ 0) h := (kseq (b := c1) rfl (fun σ h => n1_eq k G σ h)).trans (n0_eq0 k G σ h)
def run {R : Type} (k : Nat) (a0 : GV) (h : Heap) (fin : GV → Heap → Option R) : Option R := n0 k (fun x v2 h => kend x (fin v2 h)) a0 h
theorem run_eq {R : Type} (k : Nat) (a0 : GV) (h : Heap) (fin : GV → Heap → Option R) : kfun PP cfg NN HH k fn.laws_markText [a0] h fin = run k a0 h fin := (kfun_eq (nt := 20) (c := c0) (show PP.funcs[fn.laws_markText]? = some Tryd.f81 by kernel_rfl) (by kernel_rfl) (by kernel_rfl) (fun x σ h => by cases x <;> kernel_rfl)).trans (n0_eq k (fun x v2 h => kend x (fin v2 h)) _ h)
theorem gives {k : Nat} {a0 : GV} {v : GV} (e : run k a0 [] finN = some v) : NN fn.laws_markText [a0] = some v := nω_of (by kernel_rfl) ((run_eq k a0 [] finN).trans e)
end S.laws_markText
/-! laws_FnExactRecords -/
namespace S.laws_FnExactRecords
noncomputable def c0 : Code := bodyOf Tryd.f7
noncomputable def c1 : Code := cR c0
noncomputable def c2 : Code := cR c1
noncomputable def c3 : Code := cR c2
noncomputable def c4 : Code := cR c3
noncomputable def c5 : Code := cR c4
noncomputable def c6 : Code := cR c5
noncomputable def c7 : Code := cR c6
noncomputable def c8 : Code := cR c7
noncomputable def c9 : Code := cR c8
noncomputable def c10 : Code := cR c9
noncomputable def c11 : Code := cR c10
noncomputable def c12 : Code := cR c11
noncomputable def c13 : Code := cR c12
@[simp] def n13 {R : Type} (k : Nat) (G : KT1 R) (v2 v5 v7 : GV) (h : Heap) : Option R := (kN NN fn.laws_heldStringS [v5, (.int .i64 1)] h).bind fun v60 => (kbin .lss v60 (.int .i64 0)).bind fun v62 => kcond v62 (G .ret (.bool false) h) ((kbin .neq v60 v7).bind fun v65 => kcond v65 (G .ret (.bool false) h) (G .ret (.bool true) h))
theorem n13_eq {R : Type} (k : Nat) (G : KT1 R) (σ : GS) (h : Heap) : KC k 66 c13 σ h (fun x σ h => G x (σ 2) h) = n13 k G (σ 2) (σ 5) (σ 7) h := by kernel_rfl
noncomputable def c14 : Code := cL c12
noncomputable def c15 : Code := cR c14
@[simp] def n15 {R : Type} (k : Nat) (G : KT3 R) (v2 v5 v7 v57 : GV) (h : Heap) : Option R := kcond v57 (G .ret (.bool false) v5 v7 h) (G .nrm v2 v5 v7 h)
theorem n15_eq {R : Type} (k : Nat) (G : KT3 R) (σ : GS) (h : Heap) : KC k 66 c15 σ h (fun x σ h => G x (σ 2) (σ 5) (σ 7) h) = n15 k G (σ 2) (σ 5) (σ 7) (σ 57) h := by kernel_rfl
noncomputable def c16 : Code := cL c14
noncomputable def o16 : Array Oper := cO c16
@[simp] def g16_2 {R : Type} (k : Nat) (G : KT4 R) (v2 v5 v7 v53 v56 : GV) (h : Heap) : Option R := (kpick v53 (.bool true) v56).bind fun v57 => G .nrm v2 v5 v7 v57 h
theorem g16_2_eq {R : Type} (k : Nat) (G : KT4 R) (σ : GS) (h : Heap) : kgroups PP cfg NN HH 66 o16 [(none, [8])] σ h (fun σ h => G .nrm (σ 2) (σ 5) (σ 7) (σ 57) h) = g16_2 k G (σ 2) (σ 5) (σ 7) (σ 53) (σ 56) h := by kernel_rfl
@[simp] def g16_1 {R : Type} (k : Nat) (G : KT4 R) (v2 v4 v5 v7 v10 v53 : GV) (h : Heap) : Option R := bif tr false v53 then (kbin .neq v10 v4).bind fun v56 => g16_2 k G v2 v5 v7 v53 v56 h else g16_2 k G v2 v5 v7 v53 .un h
theorem g16_1_eq0 {R : Type} (k : Nat) (G : KT4 R) (σ : GS) (h : Heap) : kgroup1 PP cfg NN HH 66 o16 (some (4, false), [5, 6, 7]) σ h (fun σ h => g16_2 k G (σ 2) (σ 5) (σ 7) (σ 53) (σ 56) h) = g16_1 k G (σ 2) (σ 4) (σ 5) (σ 7) (σ 10) (σ 53) h := by kernel_rfl
theorem g16_1_eq {R : Type} (k : Nat) (G : KT4 R) (σ : GS) (h : Heap) : kgroups PP cfg NN HH 66 o16 [(some (4, false), [5, 6, 7]), (none, [8])] σ h (fun σ h => G .nrm (σ 2) (σ 5) (σ 7) (σ 57) h) = g16_1 k G (σ 2) (σ 4) (σ 5) (σ 7) (σ 10) (σ 53) h := (kgroups_cons (fun σ h => g16_2_eq k G σ h)).trans (g16_1_eq0 k G σ h)
@[simp] def g16_0 {R : Type} (k : Nat) (G : KT4 R) (v2 v3 v4 v5 v7 v9 v10 : GV) (h : Heap) : Option R := (kN NN fn.laws_eqStringS [v9, v3] h).bind fun v51 => (kun .not v51).bind fun v52 => g16_1 k G v2 v4 v5 v7 v10 v52 h
theorem g16_0_eq0 {R : Type} (k : Nat) (G : KT4 R) (σ : GS) (h : Heap) : kgroup1 PP cfg NN HH 66 o16 (none, [0, 1, 2, 3, 4]) σ h (fun σ h => g16_1 k G (σ 2) (σ 4) (σ 5) (σ 7) (σ 10) (σ 53) h) = g16_0 k G (σ 2) (σ 3) (σ 4) (σ 5) (σ 7) (σ 9) (σ 10) h := by kernel_rfl
theorem g16_0_eq {R : Type} (k : Nat) (G : KT4 R) (σ : GS) (h : Heap) : kgroups PP cfg NN HH 66 o16 [(none, [0, 1, 2, 3, 4]), (some (4, false), [5, 6, 7]), (none, [8])] σ h (fun σ h => G .nrm (σ 2) (σ 5) (σ 7) (σ 57) h) = g16_0 k G (σ 2) (σ 3) (σ 4) (σ 5) (σ 7) (σ 9) (σ 10) h := (kgroups_cons (fun σ h => g16_1_eq k G σ h)).trans (g16_0_eq0 k G σ h)
@[simp] def n16 {R : Type} (k : Nat) (G : KT4 R) (v2 v3 v4 v5 v7 v9 v10 : GV) (h : Heap) : Option R := g16_0 k G v2 v3 v4 v5 v7 v9 v10 h
theorem n16_eq {R : Type} (k : Nat) (G : KT4 R) (σ : GS) (h : Heap) : KC k 66 c16 σ h (fun x σ h => G x (σ 2) (σ 5) (σ 7) (σ 57) h) = n16 k G (σ 2) (σ 3) (σ 4) (σ 5) (σ 7) (σ 9) (σ 10) h := (kregion_eq (id := 16) (draw := false) (ops := o16) (gs := [(none, [0, 1, 2, 3, 4]), (some (4, false), [5, 6, 7]), (none, [8])]) (by kernel_rfl) (by kernel_rfl) (by kernel_rfl)).trans (g16_0_eq k G σ h)
@[simp] def n14 {R : Type} (k : Nat) (G : KT3 R) (v2 v3 v4 v5 v7 v9 v10 : GV) (h : Heap) : Option R := n16 k (fun x v2 v5 v7 v57 h => kx x (n15 k G v2 v5 v7 v57 h) (G x v2 v5 v7 h)) v2 v3 v4 v5 v7 v9 v10 h
theorem n14_eq {R : Type} (k : Nat) (G : KT3 R) (σ : GS) (h : Heap) : KC k 66 c14 σ h (fun x σ h => G x (σ 2) (σ 5) (σ 7) h) = n14 k G (σ 2) (σ 3) (σ 4) (σ 5) (σ 7) (σ 9) (σ 10) h := (kseq (b := c15) rfl (fun σ h => n15_eq k G σ h)).trans (n16_eq k (fun x v2 v5 v7 v57 h => kx x (n15 k G v2 v5 v7 v57 h) (G x v2 v5 v7 h)) σ h)
@[simp] def n12 {R : Type} (k : Nat) (G : KT1 R) (v2 v3 v4 v5 v7 v9 v10 : GV) (h : Heap) : Option R := n14 k (fun x v2 v5 v7 h => kx x (n13 k G v2 v5 v7 h) (G x v2 h)) v2 v3 v4 v5 v7 v9 v10 h
theorem n12_eq {R : Type} (k : Nat) (G : KT1 R) (σ : GS) (h : Heap) : KC k 66 c12 σ h (fun x σ h => G x (σ 2) h) = n12 k G (σ 2) (σ 3) (σ 4) (σ 5) (σ 7) (σ 9) (σ 10) h := (kseq (b := c13) rfl (fun σ h => n13_eq k G σ h)).trans (n14_eq k (fun x v2 v5 v7 h => kx x (n13 k G v2 v5 v7 h) (G x v2 h)) σ h)
noncomputable def c17 : Code := cL c11
@[simp] def n11 {R : Type} (k : Nat) (G : KT1 R) (v0 v2 v3 v4 v5 v7 : GV) (h : Heap) : Option R := (kF false HH fn.impl_Records [v0] h).bind fun r => kr r fun v46 h => (kxt 0 v46).bind fun v47 => (kxt 1 v46).bind fun v48 => n12 k G v2 v3 v4 v5 v7 v47 v48 h
theorem n11_eq0 {R : Type} (k : Nat) (G : KT1 R) (σ : GS) (h : Heap) : KC k 66 c17 σ h (fun x σ h => kx x (n12 k G (σ 2) (σ 3) (σ 4) (σ 5) (σ 7) (σ 9) (σ 10) h) (G x (σ 2) h)) = n11 k G (σ 0) (σ 2) (σ 3) (σ 4) (σ 5) (σ 7) h := by kernel_rfl
theorem n11_eq {R : Type} (k : Nat) (G : KT1 R) (σ : GS) (h : Heap) : KC k 66 c11 σ h (fun x σ h => G x (σ 2) h) = n11 k G (σ 0) (σ 2) (σ 3) (σ 4) (σ 5) (σ 7) h := (kseq (b := c12) rfl (fun σ h => n12_eq k G σ h)).trans (n11_eq0 k G σ h)
noncomputable def c18 : Code := cL c10
@[simp] def n10 {R : Type} (k : Nat) (G : KT1 R) (v0 v2 v3 v4 v5 v7 v8 : GV) (h : Heap) : Option R := (kbin .neq v8 v7).bind fun v43 => kcond v43 (G .ret (.bool false) h) (n11 k G v0 v2 v3 v4 v5 v7 h)
theorem n10_eq0 {R : Type} (k : Nat) (G : KT1 R) (σ : GS) (h : Heap) : KC k 66 c18 σ h (fun x σ h => kx x (n11 k G (σ 0) (σ 2) (σ 3) (σ 4) (σ 5) (σ 7) h) (G x (σ 2) h)) = n10 k G (σ 0) (σ 2) (σ 3) (σ 4) (σ 5) (σ 7) (σ 8) h := by kernel_rfl
theorem n10_eq {R : Type} (k : Nat) (G : KT1 R) (σ : GS) (h : Heap) : KC k 66 c10 σ h (fun x σ h => G x (σ 2) h) = n10 k G (σ 0) (σ 2) (σ 3) (σ 4) (σ 5) (σ 7) (σ 8) h := (kseq (b := c11) rfl (fun σ h => n11_eq k G σ h)).trans (n10_eq0 k G σ h)
noncomputable def c19 : Code := cL c9
@[simp] def n9 {R : Type} (k : Nat) (G : KT1 R) (v0 v2 v3 v4 v5 v7 v8 : GV) (h : Heap) : Option R := (kbin .lss v8 (.int .i64 0)).bind fun v40 => kcond v40 (G .ret (.bool false) h) (n10 k G v0 v2 v3 v4 v5 v7 v8 h)
theorem n9_eq0 {R : Type} (k : Nat) (G : KT1 R) (σ : GS) (h : Heap) : KC k 66 c19 σ h (fun x σ h => kx x (n10 k G (σ 0) (σ 2) (σ 3) (σ 4) (σ 5) (σ 7) (σ 8) h) (G x (σ 2) h)) = n9 k G (σ 0) (σ 2) (σ 3) (σ 4) (σ 5) (σ 7) (σ 8) h := by kernel_rfl
theorem n9_eq {R : Type} (k : Nat) (G : KT1 R) (σ : GS) (h : Heap) : KC k 66 c9 σ h (fun x σ h => G x (σ 2) h) = n9 k G (σ 0) (σ 2) (σ 3) (σ 4) (σ 5) (σ 7) (σ 8) h := (kseq (b := c10) rfl (fun σ h => n10_eq k G σ h)).trans (n9_eq0 k G σ h)
noncomputable def c20 : Code := cL c8
@[simp] def n8 {R : Type} (k : Nat) (G : KT1 R) (v0 v2 v3 v4 v5 v7 v8 : GV) (h : Heap) : Option R := (kN NN fn.laws_heldStringS [v5, v8] h).bind fun v38 => n9 k G v0 v2 v3 v4 v5 v7 v38 h
theorem n8_eq0 {R : Type} (k : Nat) (G : KT1 R) (σ : GS) (h : Heap) : KC k 66 c20 σ h (fun x σ h => kx x (n9 k G (σ 0) (σ 2) (σ 3) (σ 4) (σ 5) (σ 7) (σ 8) h) (G x (σ 2) h)) = n8 k G (σ 0) (σ 2) (σ 3) (σ 4) (σ 5) (σ 7) (σ 8) h := by kernel_rfl
theorem n8_eq {R : Type} (k : Nat) (G : KT1 R) (σ : GS) (h : Heap) : KC k 66 c8 σ h (fun x σ h => G x (σ 2) h) = n8 k G (σ 0) (σ 2) (σ 3) (σ 4) (σ 5) (σ 7) (σ 8) h := (kseq (b := c9) rfl (fun σ h => n9_eq k G σ h)).trans (n8_eq0 k G σ h)
noncomputable def c21 : Code := cL c7
@[simp] def n7 {R : Type} (k : Nat) (G : KT1 R) (v0 v2 v3 v4 v5 v7 : GV) (h : Heap) : Option R := n8 k G v0 v2 v3 v4 v5 v7 (.int .i64 1) h
theorem n7_eq0 {R : Type} (k : Nat) (G : KT1 R) (σ : GS) (h : Heap) : KC k 66 c21 σ h (fun x σ h => kx x (n8 k G (σ 0) (σ 2) (σ 3) (σ 4) (σ 5) (σ 7) (σ 8) h) (G x (σ 2) h)) = n7 k G (σ 0) (σ 2) (σ 3) (σ 4) (σ 5) (σ 7) h := by kernel_rfl
theorem n7_eq {R : Type} (k : Nat) (G : KT1 R) (σ : GS) (h : Heap) : KC k 66 c7 σ h (fun x σ h => G x (σ 2) h) = n7 k G (σ 0) (σ 2) (σ 3) (σ 4) (σ 5) (σ 7) h := (kseq (b := c8) rfl (fun σ h => n8_eq k G σ h)).trans (n7_eq0 k G σ h)
noncomputable def c22 : Code := cL c6
@[simp] def n6 {R : Type} (k : Nat) (G : KT1 R) (v0 v2 v3 v4 v5 v7 : GV) (h : Heap) : Option R := (HH fn.laws_markStringS [v5, v7] h).bind fun r => kr r fun v35 h => n7 k G v0 v2 v3 v4 v5 v35 h
theorem n6_eq0 {R : Type} (k : Nat) (G : KT1 R) (σ : GS) (h : Heap) : KC k 66 c22 σ h (fun x σ h => kx x (n7 k G (σ 0) (σ 2) (σ 3) (σ 4) (σ 5) (σ 7) h) (G x (σ 2) h)) = n6 k G (σ 0) (σ 2) (σ 3) (σ 4) (σ 5) (σ 7) h := by kernel_rfl
theorem n6_eq {R : Type} (k : Nat) (G : KT1 R) (σ : GS) (h : Heap) : KC k 66 c6 σ h (fun x σ h => G x (σ 2) h) = n6 k G (σ 0) (σ 2) (σ 3) (σ 4) (σ 5) (σ 7) h := (kseq (b := c7) rfl (fun σ h => n7_eq k G σ h)).trans (n6_eq0 k G σ h)
noncomputable def c23 : Code := cL c5
@[simp] def n5 {R : Type} (k : Nat) (G : KT1 R) (v0 v2 v3 v4 v5 : GV) (h : Heap) : Option R := n6 k G v0 v2 v3 v4 v5 (.int .i64 1) h
theorem n5_eq0 {R : Type} (k : Nat) (G : KT1 R) (σ : GS) (h : Heap) : KC k 66 c23 σ h (fun x σ h => kx x (n6 k G (σ 0) (σ 2) (σ 3) (σ 4) (σ 5) (σ 7) h) (G x (σ 2) h)) = n5 k G (σ 0) (σ 2) (σ 3) (σ 4) (σ 5) h := by kernel_rfl
theorem n5_eq {R : Type} (k : Nat) (G : KT1 R) (σ : GS) (h : Heap) : KC k 66 c5 σ h (fun x σ h => G x (σ 2) h) = n5 k G (σ 0) (σ 2) (σ 3) (σ 4) (σ 5) h := (kseq (b := c6) rfl (fun σ h => n6_eq k G σ h)).trans (n5_eq0 k G σ h)
noncomputable def c24 : Code := cL c4
noncomputable def c25 : Code := cR c24
@[simp] def n25 {R : Type} (k : Nat) (G : KT5 R) (v0 v2 v3 v4 v5 v32 : GV) (h : Heap) : Option R := kcond v32 (G .ret v0 (.bool false) v3 v4 v5 h) (G .nrm v0 v2 v3 v4 v5 h)
theorem n25_eq {R : Type} (k : Nat) (G : KT5 R) (σ : GS) (h : Heap) : KC k 66 c25 σ h (fun x σ h => G x (σ 0) (σ 2) (σ 3) (σ 4) (σ 5) h) = n25 k G (σ 0) (σ 2) (σ 3) (σ 4) (σ 5) (σ 32) h := by kernel_rfl
noncomputable def c26 : Code := cL c24
noncomputable def o26 : Array Oper := cO c26
@[simp] def g26_2 {R : Type} (k : Nat) (G : KT6 R) (v0 v2 v3 v4 v5 v28 v31 : GV) (h : Heap) : Option R := (kpick v28 (.bool true) v31).bind fun v32 => G .nrm v0 v2 v3 v4 v5 v32 h
theorem g26_2_eq {R : Type} (k : Nat) (G : KT6 R) (σ : GS) (h : Heap) : kgroups PP cfg NN HH 66 o26 [(none, [8])] σ h (fun σ h => G .nrm (σ 0) (σ 2) (σ 3) (σ 4) (σ 5) (σ 32) h) = g26_2 k G (σ 0) (σ 2) (σ 3) (σ 4) (σ 5) (σ 28) (σ 31) h := by kernel_rfl
@[simp] def g26_1 {R : Type} (k : Nat) (G : KT6 R) (v0 v2 v3 v4 v5 v6 v28 : GV) (h : Heap) : Option R := bif tr false v28 then (kbin .neq v6 v4).bind fun v31 => g26_2 k G v0 v2 v3 v4 v5 v28 v31 h else g26_2 k G v0 v2 v3 v4 v5 v28 .un h
theorem g26_1_eq0 {R : Type} (k : Nat) (G : KT6 R) (σ : GS) (h : Heap) : kgroup1 PP cfg NN HH 66 o26 (some (4, false), [5, 6, 7]) σ h (fun σ h => g26_2 k G (σ 0) (σ 2) (σ 3) (σ 4) (σ 5) (σ 28) (σ 31) h) = g26_1 k G (σ 0) (σ 2) (σ 3) (σ 4) (σ 5) (σ 6) (σ 28) h := by kernel_rfl
theorem g26_1_eq {R : Type} (k : Nat) (G : KT6 R) (σ : GS) (h : Heap) : kgroups PP cfg NN HH 66 o26 [(some (4, false), [5, 6, 7]), (none, [8])] σ h (fun σ h => G .nrm (σ 0) (σ 2) (σ 3) (σ 4) (σ 5) (σ 32) h) = g26_1 k G (σ 0) (σ 2) (σ 3) (σ 4) (σ 5) (σ 6) (σ 28) h := (kgroups_cons (fun σ h => g26_2_eq k G σ h)).trans (g26_1_eq0 k G σ h)
@[simp] def g26_0 {R : Type} (k : Nat) (G : KT6 R) (v0 v2 v3 v4 v5 v6 : GV) (h : Heap) : Option R := (kN NN fn.laws_eqStringS [v5, v3] h).bind fun v26 => (kun .not v26).bind fun v27 => g26_1 k G v0 v2 v3 v4 v5 v6 v27 h
theorem g26_0_eq0 {R : Type} (k : Nat) (G : KT6 R) (σ : GS) (h : Heap) : kgroup1 PP cfg NN HH 66 o26 (none, [0, 1, 2, 3, 4]) σ h (fun σ h => g26_1 k G (σ 0) (σ 2) (σ 3) (σ 4) (σ 5) (σ 6) (σ 28) h) = g26_0 k G (σ 0) (σ 2) (σ 3) (σ 4) (σ 5) (σ 6) h := by kernel_rfl
theorem g26_0_eq {R : Type} (k : Nat) (G : KT6 R) (σ : GS) (h : Heap) : kgroups PP cfg NN HH 66 o26 [(none, [0, 1, 2, 3, 4]), (some (4, false), [5, 6, 7]), (none, [8])] σ h (fun σ h => G .nrm (σ 0) (σ 2) (σ 3) (σ 4) (σ 5) (σ 32) h) = g26_0 k G (σ 0) (σ 2) (σ 3) (σ 4) (σ 5) (σ 6) h := (kgroups_cons (fun σ h => g26_1_eq k G σ h)).trans (g26_0_eq0 k G σ h)
@[simp] def n26 {R : Type} (k : Nat) (G : KT6 R) (v0 v2 v3 v4 v5 v6 : GV) (h : Heap) : Option R := g26_0 k G v0 v2 v3 v4 v5 v6 h
theorem n26_eq {R : Type} (k : Nat) (G : KT6 R) (σ : GS) (h : Heap) : KC k 66 c26 σ h (fun x σ h => G x (σ 0) (σ 2) (σ 3) (σ 4) (σ 5) (σ 32) h) = n26 k G (σ 0) (σ 2) (σ 3) (σ 4) (σ 5) (σ 6) h := (kregion_eq (id := 5) (draw := false) (ops := o26) (gs := [(none, [0, 1, 2, 3, 4]), (some (4, false), [5, 6, 7]), (none, [8])]) (by kernel_rfl) (by kernel_rfl) (by kernel_rfl)).trans (g26_0_eq k G σ h)
@[simp] def n24 {R : Type} (k : Nat) (G : KT5 R) (v0 v2 v3 v4 v5 v6 : GV) (h : Heap) : Option R := n26 k (fun x v0 v2 v3 v4 v5 v32 h => kx x (n25 k G v0 v2 v3 v4 v5 v32 h) (G x v0 v2 v3 v4 v5 h)) v0 v2 v3 v4 v5 v6 h
theorem n24_eq {R : Type} (k : Nat) (G : KT5 R) (σ : GS) (h : Heap) : KC k 66 c24 σ h (fun x σ h => G x (σ 0) (σ 2) (σ 3) (σ 4) (σ 5) h) = n24 k G (σ 0) (σ 2) (σ 3) (σ 4) (σ 5) (σ 6) h := (kseq (b := c25) rfl (fun σ h => n25_eq k G σ h)).trans (n26_eq k (fun x v0 v2 v3 v4 v5 v32 h => kx x (n25 k G v0 v2 v3 v4 v5 v32 h) (G x v0 v2 v3 v4 v5 h)) σ h)
@[simp] def n4 {R : Type} (k : Nat) (G : KT1 R) (v0 v2 v3 v4 v5 v6 : GV) (h : Heap) : Option R := n24 k (fun x v0 v2 v3 v4 v5 h => kx x (n5 k G v0 v2 v3 v4 v5 h) (G x v2 h)) v0 v2 v3 v4 v5 v6 h
theorem n4_eq {R : Type} (k : Nat) (G : KT1 R) (σ : GS) (h : Heap) : KC k 66 c4 σ h (fun x σ h => G x (σ 2) h) = n4 k G (σ 0) (σ 2) (σ 3) (σ 4) (σ 5) (σ 6) h := (kseq (b := c5) rfl (fun σ h => n5_eq k G σ h)).trans (n24_eq k (fun x v0 v2 v3 v4 v5 h => kx x (n5 k G v0 v2 v3 v4 v5 h) (G x v2 h)) σ h)
noncomputable def c27 : Code := cL c3
@[simp] def n3 {R : Type} (k : Nat) (G : KT1 R) (v0 v2 v3 v4 : GV) (h : Heap) : Option R := (kF false HH fn.impl_Records [v0] h).bind fun r => kr r fun v21 h => (kxt 0 v21).bind fun v22 => (kxt 1 v21).bind fun v23 => n4 k G v0 v2 v3 v4 v22 v23 h
theorem n3_eq0 {R : Type} (k : Nat) (G : KT1 R) (σ : GS) (h : Heap) : KC k 66 c27 σ h (fun x σ h => kx x (n4 k G (σ 0) (σ 2) (σ 3) (σ 4) (σ 5) (σ 6) h) (G x (σ 2) h)) = n3 k G (σ 0) (σ 2) (σ 3) (σ 4) h := by kernel_rfl
theorem n3_eq {R : Type} (k : Nat) (G : KT1 R) (σ : GS) (h : Heap) : KC k 66 c3 σ h (fun x σ h => G x (σ 2) h) = n3 k G (σ 0) (σ 2) (σ 3) (σ 4) h := (kseq (b := c4) rfl (fun σ h => n4_eq k G σ h)).trans (n3_eq0 k G σ h)
noncomputable def c28 : Code := cL c2
@[simp] def n2 {R : Type} (k : Nat) (G : KT1 R) (v0 v2 : GV) (h : Heap) : Option R := (kN NN fn.spec_Records [v0] h).bind fun v16 => (kxt 0 v16).bind fun v17 => (kxt 1 v16).bind fun v18 => n3 k G v0 v2 v17 v18 h
theorem n2_eq0 {R : Type} (k : Nat) (G : KT1 R) (σ : GS) (h : Heap) : KC k 66 c28 σ h (fun x σ h => kx x (n3 k G (σ 0) (σ 2) (σ 3) (σ 4) h) (G x (σ 2) h)) = n2 k G (σ 0) (σ 2) h := by kernel_rfl
theorem n2_eq {R : Type} (k : Nat) (G : KT1 R) (σ : GS) (h : Heap) : KC k 66 c2 σ h (fun x σ h => G x (σ 2) h) = n2 k G (σ 0) (σ 2) h := (kseq (b := c3) rfl (fun σ h => n3_eq k G σ h)).trans (n2_eq0 k G σ h)
noncomputable def c29 : Code := cL c1
@[simp] def n1 {R : Type} (k : Nat) (G : KT1 R) (v0 v2 : GV) (h : Heap) : Option R := (klenS v0).bind fun v12 => (kbin .gtr v12 (.int .i64 1048576)).bind fun v13 => kcond v13 (G .ret (.bool true) h) (n2 k G v0 v2 h)
theorem n1_eq0 {R : Type} (k : Nat) (G : KT1 R) (σ : GS) (h : Heap) : KC k 66 c29 σ h (fun x σ h => kx x (n2 k G (σ 0) (σ 2) h) (G x (σ 2) h)) = n1 k G (σ 0) (σ 2) h := by kernel_rfl
theorem n1_eq {R : Type} (k : Nat) (G : KT1 R) (σ : GS) (h : Heap) : KC k 66 c1 σ h (fun x σ h => G x (σ 2) h) = n1 k G (σ 0) (σ 2) h := (kseq (b := c2) rfl (fun σ h => n2_eq k G σ h)).trans (n1_eq0 k G σ h)
noncomputable def c30 : Code := cL c0
@[simp] def n0 {R : Type} (k : Nat) (G : KT1 R) (v0 : GV) (h : Heap) : Option R := n1 k G v0 (.bool false) h
theorem n0_eq0 {R : Type} (k : Nat) (G : KT1 R) (σ : GS) (h : Heap) : KC k 66 c30 σ h (fun x σ h => kx x (n1 k G (σ 0) (σ 2) h) (G x (σ 2) h)) = n0 k G (σ 0) h := by kernel_rfl
theorem n0_eq {R : Type} (k : Nat) (G : KT1 R) (σ : GS) (h : Heap) : KC k 66 c0 σ h (fun x σ h => G x (σ 2) h) = n0 k G (σ 0) h := (kseq (b := c1) rfl (fun σ h => n1_eq k G σ h)).trans (n0_eq0 k G σ h)
def run {R : Type} (k : Nat) (a0 : GV) (h : Heap) (fin : GV → Heap → Option R) : Option R := n0 k (fun x v2 h => kend x (fin v2 h)) a0 h
theorem run_eq {R : Type} (k : Nat) (a0 : GV) (h : Heap) (fin : GV → Heap → Option R) : kfun PP cfg NN HH k fn.laws_FnExactRecords [a0] h fin = run k a0 h fin := (kfun_eq (nt := 66) (c := c0) (show PP.funcs[fn.laws_FnExactRecords]? = some Tryd.f7 by kernel_rfl) (by kernel_rfl) (by kernel_rfl) (fun x σ h => by cases x <;> kernel_rfl)).trans (n0_eq k (fun x v2 h => kend x (fin v2 h)) _ h)
theorem gives {k : Nat} {a0 : GV} {v : GV} (e : run k a0 [] finN = some v) : NN fn.laws_FnExactRecords [a0] = some v := nω_of (by kernel_rfl) ((run_eq k a0 [] finN).trans e)
end S.laws_FnExactRecords
end
end Go.Proofs.YtklhdbkaejbajaaDoor.G
