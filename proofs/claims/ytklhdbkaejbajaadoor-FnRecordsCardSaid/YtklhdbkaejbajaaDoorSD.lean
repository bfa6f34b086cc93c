/- What these functions do, told for open values, out of the machine with continuations. Printed by a program of this session. -/
import Derived.Test.YtklhdbkaejbajaaDoorSN
import Derived.KernelRfl
namespace Go.Proofs.YtklhdbkaejbajaaDoor.G
open Go.RowKit
set_option linter.unusedVariables false
set_option maxRecDepth 100000
noncomputable section
variable {R : Type} (k : Nat)
/-! laws_big -/
namespace S.laws_big
noncomputable def c0 : Code := bodyOf Tryd.f32
@[simp] def n0 {R : Type} (k : Nat) (G : KT1 R) (v0 : GV) (h : Heap) : Option R := (klen v0).bind fun v4 => (kbin .gtr v4 (.int .i64 4096)).bind fun v5 => G .ret v5 h
theorem n0_eq (G : KT1 R) (σ : GS) (h : Heap) : KC k 6 c0 σ h (fun x σ h => G x (σ 2) h) = n0 k G (σ 0) h := by kernel_rfl
def run {R : Type} (k : Nat) (a0 : GV) (h : Heap) (fin : GV → Heap → Option R) : Option R := n0 k (fun x v2 h => kend x (fin v2 h)) a0 h
theorem run_eq {R : Type} (k : Nat) (a0 : GV) (h : Heap) (fin : GV → Heap → Option R) : kfun PP cfg NN HH k fn.laws_big [a0] h fin = run k a0 h fin := (kfun_eq (nt := 6) (c := c0) (show PP.funcs[fn.laws_big]? = some Tryd.f32 by kernel_rfl) (by kernel_rfl) (by kernel_rfl) (fun x σ h => by cases x <;> kernel_rfl)).trans (n0_eq k (fun x v2 h => kend x (fin v2 h)) _ h)
theorem gives {k : Nat} {a0 : GV} {v : GV} (e : run k a0 [] finN = some v) : NN fn.laws_big [a0] = some v := nω_of (by kernel_rfl) ((run_eq k a0 [] finN).trans e)
end S.laws_big
/-! spec_l1New -/
namespace S.spec_l1New
noncomputable def c0 : Code := bodyOf Tryd.f90
noncomputable def c1 : Code := cR c0
noncomputable def c2 : Code := cR c1
noncomputable def c3 : Code := cR c2
@[simp] def n3 {R : Type} (k : Nat) (G : KT1 R) (v0 v3 : GV) (h : Heap) : Option R := (gfill (fun i => [(0, 1), (1, 1), (2, 1)][i]?) [.nils, (.int .i64 0), (.int .i64 0)] [(0, v0), (2, v3)]).bind fun c => kagg c h fun v26 h => kbox v26 h fun v27 h => G .ret v27 h
theorem n3_eq (G : KT1 R) (σ : GS) (h : Heap) : KC k 28 c3 σ h (fun x σ h => G x (σ 2) h) = n3 k G (σ 0) (σ 3) h := by kernel_rfl
noncomputable def c4 : Code := cL c2
noncomputable def c5 : Code := cR c4
noncomputable def c6 : Code := cL c5
noncomputable def c7 : Code := cL c6
noncomputable def c8 : Code := cR c7
noncomputable def c9 : Code := cR c8
@[simp] def n9 {R : Type} (k : Nat) (G : KT4 R) (v0 v2 v3 v4 : GV) (h : Heap) : Option R := (kbin .add v4 (.int .i64 1)).bind fun v13 => G .nrm v0 v2 v3 v13 h
theorem n9_eq (G : KT4 R) (σ : GS) (h : Heap) : KC k 28 c9 σ h (fun x σ h => G x (σ 0) (σ 2) (σ 3) (σ 4) h) = n9 k G (σ 0) (σ 2) (σ 3) (σ 4) h := by kernel_rfl
noncomputable def c10 : Code := cL c8
noncomputable def c11 : Code := cL c10
@[simp] def n11 {R : Type} (k : Nat) (G : KT4 R) (v0 v2 v3 v4 : GV) (h : Heap) : Option R := (kbin .mul v3 (.int .i64 137)).bind fun v15 => (kia 1 v0 v4).bind fun v18 => (kload1 h v18).bind fun v19 => (kconvI .i64 v19).bind fun v20 => (kbin .add v15 v20).bind fun v21 => (kbin .add v21 (.int .i64 11)).bind fun v22 => (kbin .and v22 (.int .i64 1073741823)).bind fun v23 => G .nrm v0 v2 v23 v4 h
theorem n11_eq (G : KT4 R) (σ : GS) (h : Heap) : KC k 28 c11 σ h (fun x σ h => G x (σ 0) (σ 2) (σ 3) (σ 4) h) = n11 k G (σ 0) (σ 2) (σ 3) (σ 4) h := by kernel_rfl
@[simp] def n10 (G : KT4 R) (v0 v2 v3 v4 : GV) (h : Heap) : Option R := n11 k (fun x v0 v2 v3 v4 h => kb 1 x fun x => G x v0 v2 v3 v4 h) v0 v2 v3 v4 h
theorem n10_eq (G : KT4 R) (σ : GS) (h : Heap) : KC k 28 c10 σ h (fun x σ h => G x (σ 0) (σ 2) (σ 3) (σ 4) h) = n10 k G (σ 0) (σ 2) (σ 3) (σ 4) h := (kblock_eq (a := c11) rfl).trans (n11_eq k (fun x v0 v2 v3 v4 h => kb 1 x fun x => G x v0 v2 v3 v4 h) σ h)
@[simp] def n8 (G : KT4 R) (v0 v2 v3 v4 : GV) (h : Heap) : Option R := n10 k (fun x v0 v2 v3 v4 h => kx x (n9 k G v0 v2 v3 v4 h) (G x v0 v2 v3 v4 h)) v0 v2 v3 v4 h
theorem n8_eq (G : KT4 R) (σ : GS) (h : Heap) : KC k 28 c8 σ h (fun x σ h => G x (σ 0) (σ 2) (σ 3) (σ 4) h) = n8 k G (σ 0) (σ 2) (σ 3) (σ 4) h := (kseq (b := c9) rfl (fun σ h => n9_eq k G σ h)).trans (n10_eq k (fun x v0 v2 v3 v4 h => kx x (n9 k G v0 v2 v3 v4 h) (G x v0 v2 v3 v4 h)) σ h)
noncomputable def c12 : Code := cL c7
@[simp] def n7 (G : KT4 R) (v0 v2 v3 v4 : GV) (h : Heap) : Option R := (klen v0).bind fun v10 => (kbin .lss v4 v10).bind fun v11 => kcond v11 (n8 k G v0 v2 v3 v4 h) (G (.ext 0) v0 v2 v3 v4 h)
theorem n7_eq (G : KT4 R) (σ : GS) (h : Heap) : KC k 28 c7 σ h (fun x σ h => G x (σ 0) (σ 2) (σ 3) (σ 4) h) = n7 k G (σ 0) (σ 2) (σ 3) (σ 4) h := (kseq (a := c12) (b := c8) rfl (fun σ h => n8_eq k G σ h)).trans (by kernel_rfl)
def l6 {R : Type} (k : Nat) (G : KT3 R) : Nat → GV → GV → GV → GV → Heap → Option R
  | 0, _, _, _, _, _ => none
  | r + 1, v0, v2, v3, v4, h => n7 k (fun x v0 v2 v3 v4 h => kx x (l6 k G r v0 v2 v3 v4 h) (G x v0 v2 v3 h)) v0 v2 v3 v4 h
theorem l6_eq {R : Type} (k : Nat) (G : KT3 R) : ∀ (r : Nat) (σ : GS) (h : Heap), kloop (fun σ h K => KC k 28 c7 σ h K) r σ h (fun x σ h => G x (σ 0) (σ 2) (σ 3) h) = l6 k G r (σ 0) (σ 2) (σ 3) (σ 4) h
  | 0, _, _ => rfl
  | r + 1, σ, h => (kloop_eq (fun σ h => l6_eq k G r σ h)).trans (n7_eq k (fun x v0 v2 v3 v4 h => kx x (l6 k G r v0 v2 v3 v4 h) (G x v0 v2 v3 h)) σ h)
@[simp] def n6 (G : KT3 R) (v0 v2 v3 v4 : GV) (h : Heap) : Option R := l6 k G k v0 v2 v3 v4 h
theorem n6_eq (G : KT3 R) (σ : GS) (h : Heap) : KC k 28 c6 σ h (fun x σ h => G x (σ 0) (σ 2) (σ 3) h) = n6 k G (σ 0) (σ 2) (σ 3) (σ 4) h := (kloopc_eq (a := c7) rfl).trans (l6_eq k G k σ h)
@[simp] def n5 (G : KT3 R) (v0 v2 v3 v4 : GV) (h : Heap) : Option R := n6 k (fun x v0 v2 v3 h => kb 0 x fun x => G x v0 v2 v3 h) v0 v2 v3 v4 h
theorem n5_eq (G : KT3 R) (σ : GS) (h : Heap) : KC k 28 c5 σ h (fun x σ h => G x (σ 0) (σ 2) (σ 3) h) = n5 k G (σ 0) (σ 2) (σ 3) (σ 4) h := (kblock_eq (a := c6) rfl).trans (n6_eq k (fun x v0 v2 v3 h => kb 0 x fun x => G x v0 v2 v3 h) σ h)
noncomputable def c13 : Code := cL c4
@[simp] def n4 (G : KT3 R) (v0 v2 v3 : GV) (h : Heap) : Option R := n5 k G v0 v2 v3 (.int .i64 0) h
theorem n4_eq (G : KT3 R) (σ : GS) (h : Heap) : KC k 28 c4 σ h (fun x σ h => G x (σ 0) (σ 2) (σ 3) h) = n4 k G (σ 0) (σ 2) (σ 3) h := (kseq (a := c13) (b := c5) rfl (fun σ h => n5_eq k G σ h)).trans (by kernel_rfl)
@[simp] def n2 (G : KT1 R) (v0 v2 v3 : GV) (h : Heap) : Option R := n4 k (fun x v0 v2 v3 h => kx x (n3 k G v0 v3 h) (G x v2 h)) v0 v2 v3 h
theorem n2_eq (G : KT1 R) (σ : GS) (h : Heap) : KC k 28 c2 σ h (fun x σ h => G x (σ 2) h) = n2 k G (σ 0) (σ 2) (σ 3) h := (kseq (b := c3) rfl (fun σ h => n3_eq k G σ h)).trans (n4_eq k (fun x v0 v2 v3 h => kx x (n3 k G v0 v3 h) (G x v2 h)) σ h)
noncomputable def c14 : Code := cL c1
@[simp] def n1 (G : KT1 R) (v0 v2 : GV) (h : Heap) : Option R := (klen v0).bind fun v6 => (kbin .add (.int .i64 110017) v6).bind fun v7 => n2 k G v0 v2 v7 h
theorem n1_eq (G : KT1 R) (σ : GS) (h : Heap) : KC k 28 c1 σ h (fun x σ h => G x (σ 2) h) = n1 k G (σ 0) (σ 2) h := (kseq (a := c14) (b := c2) rfl (fun σ h => n2_eq k G σ h)).trans (by kernel_rfl)
noncomputable def c15 : Code := cL c0
@[simp] def n0 (G : KT1 R) (v0 : GV) (h : Heap) : Option R := n1 k G v0 .nilp h
theorem n0_eq (G : KT1 R) (σ : GS) (h : Heap) : KC k 28 c0 σ h (fun x σ h => G x (σ 2) h) = n0 k G (σ 0) h := (kseq (a := c15) (b := c1) rfl (fun σ h => n1_eq k G σ h)).trans (by kernel_rfl)
def run {R : Type} (k : Nat) (a0 : GV) (h : Heap) (fin : GV → Heap → Option R) : Option R := n0 k (fun x v2 h => kend x (fin v2 h)) a0 h
theorem run_eq {R : Type} (k : Nat) (a0 : GV) (h : Heap) (fin : GV → Heap → Option R) : kfun PP cfg NN HH k fn.spec_l1New [a0] h fin = run k a0 h fin := (kfun_eq (nt := 28) (c := c0) (show PP.funcs[fn.spec_l1New]? = some Tryd.f90 by kernel_rfl) (by kernel_rfl) (by kernel_rfl) (fun x σ h => by cases x <;> kernel_rfl)).trans (n0_eq k (fun x v2 h => kend x (fin v2 h)) _ h)
theorem gives {k : Nat} {a0 : GV} {h : Heap} {r : GV × Heap} (e : run k a0 h finH = some r) : HH fn.spec_l1New [a0] h = some r := kω_of ((run_eq k a0 h finH).trans e)
end S.spec_l1New
/-! spec_l14DrawCount -/
namespace S.spec_l14DrawCount
noncomputable def c0 : Code := bodyOf Tryd.f91
@[simp] def n0 {R : Type} (k : Nat) (G : KT1 R) (v0 : GV) (h : Heap) : Option R := (HH fn.spec_l1Once [v0, (.int .i64 8)] h).bind fun r => kr r fun v4 h => kcond v4 ((gfill (fun i => some (i * 1, 1)) (zeros [(.int .i64 0)] 6) [(0, (.int .i64 (-1))), (1, (.int .i64 0)), (2, (.int .i64 1099511627776)), (3, (.int .i64 1099511627777)), (4, (.int .i64 (-9223372036854775808))), (5, (.int .i64 4611686018427387904))]).bind fun c => kbs 6 1 c h fun v5 h => (HH fn.spec_l1Below [v0, (.int .i64 6)] h).bind fun r => kr r fun v7 h => (kia 1 v5 v7).bind fun v8 => (kload1 h v8).bind fun v9 => G .ret v9 h) ((HH fn.spec_l1Below [v0, (.int .i64 1000)] h).bind fun r => kr r fun v11 h => G .ret v11 h)
theorem n0_eq (G : KT1 R) (σ : GS) (h : Heap) : KC k 12 c0 σ h (fun x σ h => G x (σ 2) h) = n0 k G (σ 0) h := by kernel_rfl
def run {R : Type} (k : Nat) (a0 : GV) (h : Heap) (fin : GV → Heap → Option R) : Option R := n0 k (fun x v2 h => kend x (fin v2 h)) a0 h
theorem run_eq {R : Type} (k : Nat) (a0 : GV) (h : Heap) (fin : GV → Heap → Option R) : kfun PP cfg NN HH k fn.spec_l14DrawCount [a0] h fin = run k a0 h fin := (kfun_eq (nt := 12) (c := c0) (show PP.funcs[fn.spec_l14DrawCount]? = some Tryd.f91 by kernel_rfl) (by kernel_rfl) (by kernel_rfl) (fun x σ h => by cases x <;> kernel_rfl)).trans (n0_eq k (fun x v2 h => kend x (fin v2 h)) _ h)
theorem gives {k : Nat} {a0 : GV} {h : Heap} {r : GV × Heap} (e : run k a0 h finH = some r) : HH fn.spec_l14DrawCount [a0] h = some r := kω_of ((run_eq k a0 h finH).trans e)
end S.spec_l14DrawCount
/-! spec_l14DrawKey -/
namespace S.spec_l14DrawKey
noncomputable def c0 : Code := bodyOf Tryd.f92
@[simp] def n0 {R : Type} (k : Nat) (G : KT1 R) (v0 : GV) (h : Heap) : Option R := (HH fn.spec_l1Once [v0, (.int .i64 12)] h).bind fun r => kr r fun v4 h => kcond v4 ((gfill (fun i => some (i * 1, 1)) (zeros [(.str { data := #[] })] 3) [(0, (.str { data := #[] })), (1, (.str { data := #[107] })), (2, (.str { data := #[48, 49, 50, 51, 52, 53, 54, 55, 56, 57, 97, 98, 99, 100, 101, 102, 103] }))]).bind fun c => kbs 3 1 c h fun v5 h => (HH fn.spec_l1Below [v0, (.int .i64 3)] h).bind fun r => kr r fun v7 h => (kia 1 v5 v7).bind fun v8 => (kload1 h v8).bind fun v9 => G .ret v9 h) ((gfill (fun i => some (i * 1, 1)) (zeros [(.str { data := #[] })] 2) [(0, (.str { data := #[107, 107, 107, 107, 107, 107, 107, 107, 107, 107, 107, 107, 107, 107, 107, 107] })), (1, (.str { data := #[48, 49, 50, 51, 52, 53, 54, 55, 56, 57, 97, 98, 99, 100, 101, 102] }))]).bind fun c => kbs 2 1 c h fun v10 h => (HH fn.spec_l1Below [v0, (.int .i64 2)] h).bind fun r => kr r fun v12 h => (kia 1 v10 v12).bind fun v13 => (kload1 h v13).bind fun v14 => G .ret v14 h)
theorem n0_eq (G : KT1 R) (σ : GS) (h : Heap) : KC k 15 c0 σ h (fun x σ h => G x (σ 2) h) = n0 k G (σ 0) h := by kernel_rfl
def run {R : Type} (k : Nat) (a0 : GV) (h : Heap) (fin : GV → Heap → Option R) : Option R := n0 k (fun x v2 h => kend x (fin v2 h)) a0 h
theorem run_eq {R : Type} (k : Nat) (a0 : GV) (h : Heap) (fin : GV → Heap → Option R) : kfun PP cfg NN HH k fn.spec_l14DrawKey [a0] h fin = run k a0 h fin := (kfun_eq (nt := 15) (c := c0) (show PP.funcs[fn.spec_l14DrawKey]? = some Tryd.f92 by kernel_rfl) (by kernel_rfl) (by kernel_rfl) (fun x σ h => by cases x <;> kernel_rfl)).trans (n0_eq k (fun x v2 h => kend x (fin v2 h)) _ h)
theorem gives {k : Nat} {a0 : GV} {h : Heap} {r : GV × Heap} (e : run k a0 h finH = some r) : HH fn.spec_l14DrawKey [a0] h = some r := kω_of ((run_eq k a0 h finH).trans e)
end S.spec_l14DrawKey
/-! spec_l1Below -/
namespace S.spec_l1Below
noncomputable def c0 : Code := bodyOf Tryd.f93
@[simp] def n0 {R : Type} (k : Nat) (G : KT1 R) (v0 v1 : GV) (h : Heap) : Option R := (kbin .leq v1 (.int .i64 0)).bind fun v10 => kcond v10 (G .ret (.int .i64 0) h) ((kbin .leq v1 (.int .i64 256)).bind fun v12 => kcond v12 ((HH fn.spec_l1Byte [v0] h).bind fun r => kr r fun v14 h => (kbin .rem v14 v1).bind fun v16 => G .ret v16 h) ((HH fn.spec_l1Byte [v0] h).bind fun r => kr r fun v18 h => (HH fn.spec_l1Byte [v0] h).bind fun r => kr r fun v20 h => (HH fn.spec_l1Byte [v0] h).bind fun r => kr r fun v22 h => (HH fn.spec_l1Byte [v0] h).bind fun r => kr r fun v24 h => (kbin .mul v18 (.int .i64 16777216)).bind fun v26 => (kbin .mul v20 (.int .i64 65536)).bind fun v28 => (kbin .add v26 v28).bind fun v29 => (kbin .mul v22 (.int .i64 256)).bind fun v31 => (kbin .add v29 v31).bind fun v32 => (kbin .add v32 v24).bind fun v34 => (kbin .rem v34 v1).bind fun v36 => G .ret v36 h))
theorem n0_eq (G : KT1 R) (σ : GS) (h : Heap) : KC k 37 c0 σ h (fun x σ h => G x (σ 4) h) = n0 k G (σ 0) (σ 1) h := by kernel_rfl
def run {R : Type} (k : Nat) (a0 : GV) (a1 : GV) (h : Heap) (fin : GV → Heap → Option R) : Option R := n0 k (fun x v4 h => kend x (fin v4 h)) a0 a1 h
theorem run_eq {R : Type} (k : Nat) (a0 : GV) (a1 : GV) (h : Heap) (fin : GV → Heap → Option R) : kfun PP cfg NN HH k fn.spec_l1Below [a0, a1] h fin = run k a0 a1 h fin := (kfun_eq (nt := 37) (c := c0) (show PP.funcs[fn.spec_l1Below]? = some Tryd.f93 by kernel_rfl) (by kernel_rfl) (by kernel_rfl) (fun x σ h => by cases x <;> kernel_rfl)).trans (n0_eq k (fun x v4 h => kend x (fin v4 h)) _ h)
theorem gives {k : Nat} {a0 : GV} {a1 : GV} {h : Heap} {r : GV × Heap} (e : run k a0 a1 h finH = some r) : HH fn.spec_l1Below [a0, a1] h = some r := kω_of ((run_eq k a0 a1 h finH).trans e)
end S.spec_l1Below
/-! spec_l1Once -/
namespace S.spec_l1Once
noncomputable def c0 : Code := bodyOf Tryd.f97
@[simp] def n0 {R : Type} (k : Nat) (G : KT1 R) (v0 v1 : GV) (h : Heap) : Option R := (HH fn.spec_l1Below [v0, v1] h).bind fun r => kr r fun v7 h => (kbin .eql v7 (.int .i64 0)).bind fun v8 => G .ret v8 h
theorem n0_eq (G : KT1 R) (σ : GS) (h : Heap) : KC k 9 c0 σ h (fun x σ h => G x (σ 4) h) = n0 k G (σ 0) (σ 1) h := by kernel_rfl
def run {R : Type} (k : Nat) (a0 : GV) (a1 : GV) (h : Heap) (fin : GV → Heap → Option R) : Option R := n0 k (fun x v4 h => kend x (fin v4 h)) a0 a1 h
theorem run_eq {R : Type} (k : Nat) (a0 : GV) (a1 : GV) (h : Heap) (fin : GV → Heap → Option R) : kfun PP cfg NN HH k fn.spec_l1Once [a0, a1] h fin = run k a0 a1 h fin := (kfun_eq (nt := 9) (c := c0) (show PP.funcs[fn.spec_l1Once]? = some Tryd.f97 by kernel_rfl) (by kernel_rfl) (by kernel_rfl) (fun x σ h => by cases x <;> kernel_rfl)).trans (n0_eq k (fun x v4 h => kend x (fin v4 h)) _ h)
theorem gives {k : Nat} {a0 : GV} {a1 : GV} {h : Heap} {r : GV × Heap} (e : run k a0 a1 h finH = some r) : HH fn.spec_l1Once [a0, a1] h = some r := kω_of ((run_eq k a0 a1 h finH).trans e)
end S.spec_l1Once
/-! spec_l13Bend -/
namespace S.spec_l13Bend
noncomputable def c0 : Code := bodyOf Tryd.f98
noncomputable def c1 : Code := cR c0
noncomputable def c2 : Code := cR c1
noncomputable def c3 : Code := cR c2
@[simp] def n3 {R : Type} (k : Nat) (G : KT1 R) (v7 : GV) (h : Heap) : Option R := (kbstr h v7).bind fun v77 => G .ret v77 h
theorem n3_eq (G : KT1 R) (σ : GS) (h : Heap) : KC k 78 c3 σ h (fun x σ h => G x (σ 6) h) = n3 k G (σ 7) h := by kernel_rfl
noncomputable def c4 : Code := cL c2
noncomputable def c5 : Code := cR c4
noncomputable def c6 : Code := cL c5
noncomputable def c7 : Code := cL c6
noncomputable def c8 : Code := cR c7
noncomputable def c9 : Code := cR c8
@[simp] def n9 {R : Type} (k : Nat) (G : KT5 R) (v0 v2 v6 v7 v8 : GV) (h : Heap) : Option R := (kbin .sub v8 (.int .i64 1)).bind fun v22 => G .nrm v0 v2 v6 v7 v22 h
theorem n9_eq (G : KT5 R) (σ : GS) (h : Heap) : KC k 78 c9 σ h (fun x σ h => G x (σ 0) (σ 2) (σ 6) (σ 7) (σ 8) h) = n9 k G (σ 0) (σ 2) (σ 6) (σ 7) (σ 8) h := by kernel_rfl
noncomputable def c10 : Code := cL c8
noncomputable def c11 : Code := cL c10
noncomputable def c12 : Code := cR c11
noncomputable def c13 : Code := cR c12
noncomputable def c14 : Code := cL c13
@[simp] def n14 {R : Type} (k : Nat) (G : KT5 R) (v0 v2 v6 v7 v8 v9 v28 : GV) (h : Heap) : Option R := (kbin .eql v28 (.int .i64 0)).bind fun v30 => kcond v30 ((klenS v2).bind fun v36 => (HH fn.spec_l1Below [v0, v36] h).bind fun r => kr r fun v37 h => (kbyte v2 v37).bind fun v38 => (kia 1 v7 v9).bind fun v39 => (kstore 1 h v39 v38).bind fun h => G .nrm v0 v2 v6 v7 v8 h) ((kbin .eql v28 (.int .i64 1)).bind fun v41 => kcond v41 ((ksl 1 v7 none (some v9) none).bind fun v44 => G .nrm v0 v2 v6 v44 v8 h) ((kbin .eql v28 (.int .i64 2)).bind fun v46 => kcond v46 ((ksl 1 v7 none (some v9) none).bind fun v50 => (kapp [(.int .u8 0)] 1 1 .emp v50 h).bind fun r => kr r fun v51 h => (kbin .add v9 (.int .i64 1)).bind fun v54 => (ksl 1 v7 (some v54) none none).bind fun v55 => (kapp [(.int .u8 0)] 1 1 v51 v55 h).bind fun r => kr r fun v56 h => G .nrm v0 v2 v6 v56 v8 h) ((kbin .eql v28 (.int .i64 3)).bind fun v58 => kcond v58 ((ksl 1 v7 none (some v9) none).bind fun v62 => (kapp [(.int .u8 0)] 1 1 .emp v62 h).bind fun r => kr r fun v63 h => (klenS v2).bind fun v67 => (HH fn.spec_l1Below [v0, v67] h).bind fun r => kr r fun v68 h => (kbyte v2 v68).bind fun v69 => (gfill (fun i => some (i * 1, 1)) (zeros [(.int .u8 0)] 1) [(0, v69)]).bind fun c => kbs 1 1 c h fun v70 h => (kapp [(.int .u8 0)] 1 1 v63 v70 h).bind fun r => kr r fun v71 h => (ksl 1 v7 (some v9) none none).bind fun v74 => (kapp [(.int .u8 0)] 1 1 v71 v74 h).bind fun r => kr r fun v75 h => G .nrm v0 v2 v6 v75 v8 h) (G .nrm v0 v2 v6 v7 v8 h))))
theorem n14_eq (G : KT5 R) (σ : GS) (h : Heap) : KC k 78 c14 σ h (fun x σ h => G x (σ 0) (σ 2) (σ 6) (σ 7) (σ 8) h) = n14 k G (σ 0) (σ 2) (σ 6) (σ 7) (σ 8) (σ 9) (σ 28) h := by kernel_rfl
@[simp] def n13 (G : KT5 R) (v0 v2 v6 v7 v8 v9 v28 : GV) (h : Heap) : Option R := n14 k (fun x v0 v2 v6 v7 v8 h => kb 2 x fun x => G x v0 v2 v6 v7 v8 h) v0 v2 v6 v7 v8 v9 v28 h
theorem n13_eq (G : KT5 R) (σ : GS) (h : Heap) : KC k 78 c13 σ h (fun x σ h => G x (σ 0) (σ 2) (σ 6) (σ 7) (σ 8) h) = n13 k G (σ 0) (σ 2) (σ 6) (σ 7) (σ 8) (σ 9) (σ 28) h := (kblock_eq (a := c14) rfl).trans (n14_eq k (fun x v0 v2 v6 v7 v8 h => kb 2 x fun x => G x v0 v2 v6 v7 v8 h) σ h)
noncomputable def c15 : Code := cL c12
@[simp] def n12 (G : KT5 R) (v0 v2 v6 v7 v8 v9 : GV) (h : Heap) : Option R := (HH fn.spec_l1Below [v0, (.int .i64 4)] h).bind fun r => kr r fun v28 h => n13 k G v0 v2 v6 v7 v8 v9 v28 h
theorem n12_eq (G : KT5 R) (σ : GS) (h : Heap) : KC k 78 c12 σ h (fun x σ h => G x (σ 0) (σ 2) (σ 6) (σ 7) (σ 8) h) = n12 k G (σ 0) (σ 2) (σ 6) (σ 7) (σ 8) (σ 9) h := (kseq (a := c15) (b := c13) rfl (fun σ h => n13_eq k G σ h)).trans (by kernel_rfl)
noncomputable def c16 : Code := cL c11
@[simp] def n11 (G : KT5 R) (v0 v2 v6 v7 v8 : GV) (h : Heap) : Option R := (klen v7).bind fun v25 => (HH fn.spec_l1Below [v0, v25] h).bind fun r => kr r fun v26 h => n12 k G v0 v2 v6 v7 v8 v26 h
theorem n11_eq (G : KT5 R) (σ : GS) (h : Heap) : KC k 78 c11 σ h (fun x σ h => G x (σ 0) (σ 2) (σ 6) (σ 7) (σ 8) h) = n11 k G (σ 0) (σ 2) (σ 6) (σ 7) (σ 8) h := (kseq (a := c16) (b := c12) rfl (fun σ h => n12_eq k G σ h)).trans (by kernel_rfl)
@[simp] def n10 (G : KT5 R) (v0 v2 v6 v7 v8 : GV) (h : Heap) : Option R := n11 k (fun x v0 v2 v6 v7 v8 h => kb 1 x fun x => G x v0 v2 v6 v7 v8 h) v0 v2 v6 v7 v8 h
theorem n10_eq (G : KT5 R) (σ : GS) (h : Heap) : KC k 78 c10 σ h (fun x σ h => G x (σ 0) (σ 2) (σ 6) (σ 7) (σ 8) h) = n10 k G (σ 0) (σ 2) (σ 6) (σ 7) (σ 8) h := (kblock_eq (a := c11) rfl).trans (n11_eq k (fun x v0 v2 v6 v7 v8 h => kb 1 x fun x => G x v0 v2 v6 v7 v8 h) σ h)
@[simp] def n8 (G : KT5 R) (v0 v2 v6 v7 v8 : GV) (h : Heap) : Option R := n10 k (fun x v0 v2 v6 v7 v8 h => kx x (n9 k G v0 v2 v6 v7 v8 h) (G x v0 v2 v6 v7 v8 h)) v0 v2 v6 v7 v8 h
theorem n8_eq (G : KT5 R) (σ : GS) (h : Heap) : KC k 78 c8 σ h (fun x σ h => G x (σ 0) (σ 2) (σ 6) (σ 7) (σ 8) h) = n8 k G (σ 0) (σ 2) (σ 6) (σ 7) (σ 8) h := (kseq (b := c9) rfl (fun σ h => n9_eq k G σ h)).trans (n10_eq k (fun x v0 v2 v6 v7 v8 h => kx x (n9 k G v0 v2 v6 v7 v8 h) (G x v0 v2 v6 v7 v8 h)) σ h)
noncomputable def c17 : Code := cL c7
noncomputable def c18 : Code := cR c17
@[simp] def n18 {R : Type} (k : Nat) (G : KT5 R) (v0 v2 v6 v7 v8 v20 : GV) (h : Heap) : Option R := kcond v20 (G .nrm v0 v2 v6 v7 v8 h) (G (.ext 0) v0 v2 v6 v7 v8 h)
theorem n18_eq (G : KT5 R) (σ : GS) (h : Heap) : KC k 78 c18 σ h (fun x σ h => G x (σ 0) (σ 2) (σ 6) (σ 7) (σ 8) h) = n18 k G (σ 0) (σ 2) (σ 6) (σ 7) (σ 8) (σ 20) h := by kernel_rfl
noncomputable def c19 : Code := cL c17
noncomputable def o19 : Array Oper := cO c19
@[simp] def g19_2 {R : Type} (k : Nat) (G : KT6 R) (v0 v2 v6 v7 v8 v16 v19 : GV) (h : Heap) : Option R := (kpick v16 v19 (.bool false)).bind fun v20 => G .nrm v0 v2 v6 v7 v8 v20 h
theorem g19_2_eq (G : KT6 R) (σ : GS) (h : Heap) : kgroups PP cfg NN HH 78 o19 [(none, [6])] σ h (fun σ h => G .nrm (σ 0) (σ 2) (σ 6) (σ 7) (σ 8) (σ 20) h) = g19_2 k G (σ 0) (σ 2) (σ 6) (σ 7) (σ 8) (σ 16) (σ 19) h := by kernel_rfl
@[simp] def g19_1 (G : KT6 R) (v0 v2 v6 v7 v8 v16 : GV) (h : Heap) : Option R := bif tr true v16 then (klen v7).bind fun v18 => (kbin .gtr v18 (.int .i64 0)).bind fun v19 => g19_2 k G v0 v2 v6 v7 v8 v16 v19 h else g19_2 k G v0 v2 v6 v7 v8 v16 .un h
theorem g19_1_eq (G : KT6 R) (σ : GS) (h : Heap) : kgroups PP cfg NN HH 78 o19 [(some (2, true), [3, 4, 5]), (none, [6])] σ h (fun σ h => G .nrm (σ 0) (σ 2) (σ 6) (σ 7) (σ 8) (σ 20) h) = g19_1 k G (σ 0) (σ 2) (σ 6) (σ 7) (σ 8) (σ 16) h := (kgroups_cons (fun σ h => g19_2_eq k G σ h)).trans (by kernel_rfl)
@[simp] def g19_0 (G : KT6 R) (v0 v2 v6 v7 v8 : GV) (h : Heap) : Option R := (kbin .gtr v8 (.int .i64 0)).bind fun v15 => g19_1 k G v0 v2 v6 v7 v8 v15 h
theorem g19_0_eq (G : KT6 R) (σ : GS) (h : Heap) : kgroups PP cfg NN HH 78 o19 [(none, [0, 1, 2]), (some (2, true), [3, 4, 5]), (none, [6])] σ h (fun σ h => G .nrm (σ 0) (σ 2) (σ 6) (σ 7) (σ 8) (σ 20) h) = g19_0 k G (σ 0) (σ 2) (σ 6) (σ 7) (σ 8) h := (kgroups_cons (fun σ h => g19_1_eq k G σ h)).trans (by kernel_rfl)
@[simp] def n19 (G : KT6 R) (v0 v2 v6 v7 v8 : GV) (h : Heap) : Option R := g19_0 k G v0 v2 v6 v7 v8 h
theorem n19_eq (G : KT6 R) (σ : GS) (h : Heap) : KC k 78 c19 σ h (fun x σ h => G x (σ 0) (σ 2) (σ 6) (σ 7) (σ 8) (σ 20) h) = n19 k G (σ 0) (σ 2) (σ 6) (σ 7) (σ 8) h := (kregion_eq (id := 3) (draw := false) (ops := o19) (gs := [(none, [0, 1, 2]), (some (2, true), [3, 4, 5]), (none, [6])]) (by kernel_rfl) (by kernel_rfl) (by kernel_rfl)).trans (g19_0_eq k G σ h)
@[simp] def n17 (G : KT5 R) (v0 v2 v6 v7 v8 : GV) (h : Heap) : Option R := n19 k (fun x v0 v2 v6 v7 v8 v20 h => kx x (n18 k G v0 v2 v6 v7 v8 v20 h) (G x v0 v2 v6 v7 v8 h)) v0 v2 v6 v7 v8 h
theorem n17_eq (G : KT5 R) (σ : GS) (h : Heap) : KC k 78 c17 σ h (fun x σ h => G x (σ 0) (σ 2) (σ 6) (σ 7) (σ 8) h) = n17 k G (σ 0) (σ 2) (σ 6) (σ 7) (σ 8) h := (kseq (b := c18) rfl (fun σ h => n18_eq k G σ h)).trans (n19_eq k (fun x v0 v2 v6 v7 v8 v20 h => kx x (n18 k G v0 v2 v6 v7 v8 v20 h) (G x v0 v2 v6 v7 v8 h)) σ h)
@[simp] def n7 (G : KT5 R) (v0 v2 v6 v7 v8 : GV) (h : Heap) : Option R := n17 k (fun x v0 v2 v6 v7 v8 h => kx x (n8 k G v0 v2 v6 v7 v8 h) (G x v0 v2 v6 v7 v8 h)) v0 v2 v6 v7 v8 h
theorem n7_eq (G : KT5 R) (σ : GS) (h : Heap) : KC k 78 c7 σ h (fun x σ h => G x (σ 0) (σ 2) (σ 6) (σ 7) (σ 8) h) = n7 k G (σ 0) (σ 2) (σ 6) (σ 7) (σ 8) h := (kseq (b := c8) rfl (fun σ h => n8_eq k G σ h)).trans (n17_eq k (fun x v0 v2 v6 v7 v8 h => kx x (n8 k G v0 v2 v6 v7 v8 h) (G x v0 v2 v6 v7 v8 h)) σ h)
def l6 {R : Type} (k : Nat) (G : KT2 R) : Nat → GV → GV → GV → GV → GV → Heap → Option R
  | 0, _, _, _, _, _, _ => none
  | r + 1, v0, v2, v6, v7, v8, h => n7 k (fun x v0 v2 v6 v7 v8 h => kx x (l6 k G r v0 v2 v6 v7 v8 h) (G x v6 v7 h)) v0 v2 v6 v7 v8 h
theorem l6_eq {R : Type} (k : Nat) (G : KT2 R) : ∀ (r : Nat) (σ : GS) (h : Heap), kloop (fun σ h K => KC k 78 c7 σ h K) r σ h (fun x σ h => G x (σ 6) (σ 7) h) = l6 k G r (σ 0) (σ 2) (σ 6) (σ 7) (σ 8) h
  | 0, _, _ => rfl
  | r + 1, σ, h => (kloop_eq (fun σ h => l6_eq k G r σ h)).trans (n7_eq k (fun x v0 v2 v6 v7 v8 h => kx x (l6 k G r v0 v2 v6 v7 v8 h) (G x v6 v7 h)) σ h)
@[simp] def n6 (G : KT2 R) (v0 v2 v6 v7 v8 : GV) (h : Heap) : Option R := l6 k G k v0 v2 v6 v7 v8 h
theorem n6_eq (G : KT2 R) (σ : GS) (h : Heap) : KC k 78 c6 σ h (fun x σ h => G x (σ 6) (σ 7) h) = n6 k G (σ 0) (σ 2) (σ 6) (σ 7) (σ 8) h := (kloopc_eq (a := c7) rfl).trans (l6_eq k G k σ h)
@[simp] def n5 (G : KT2 R) (v0 v2 v6 v7 v8 : GV) (h : Heap) : Option R := n6 k (fun x v6 v7 h => kb 0 x fun x => G x v6 v7 h) v0 v2 v6 v7 v8 h
theorem n5_eq (G : KT2 R) (σ : GS) (h : Heap) : KC k 78 c5 σ h (fun x σ h => G x (σ 6) (σ 7) h) = n5 k G (σ 0) (σ 2) (σ 6) (σ 7) (σ 8) h := (kblock_eq (a := c6) rfl).trans (n6_eq k (fun x v6 v7 h => kb 0 x fun x => G x v6 v7 h) σ h)
noncomputable def c20 : Code := cL c4
@[simp] def n4 (G : KT2 R) (v0 v2 v6 v7 : GV) (h : Heap) : Option R := (HH fn.spec_l1Below [v0, (.int .i64 3)] h).bind fun r => kr r fun v13 h => n5 k G v0 v2 v6 v7 v13 h
theorem n4_eq (G : KT2 R) (σ : GS) (h : Heap) : KC k 78 c4 σ h (fun x σ h => G x (σ 6) (σ 7) h) = n4 k G (σ 0) (σ 2) (σ 6) (σ 7) h := (kseq (a := c20) (b := c5) rfl (fun σ h => n5_eq k G σ h)).trans (by kernel_rfl)
@[simp] def n2 (G : KT1 R) (v0 v2 v6 v7 : GV) (h : Heap) : Option R := n4 k (fun x v6 v7 h => kx x (n3 k G v7 h) (G x v6 h)) v0 v2 v6 v7 h
theorem n2_eq (G : KT1 R) (σ : GS) (h : Heap) : KC k 78 c2 σ h (fun x σ h => G x (σ 6) h) = n2 k G (σ 0) (σ 2) (σ 6) (σ 7) h := (kseq (b := c3) rfl (fun σ h => n3_eq k G σ h)).trans (n4_eq k (fun x v6 v7 h => kx x (n3 k G v7 h) (G x v6 h)) σ h)
noncomputable def c21 : Code := cL c1
@[simp] def n1 (G : KT1 R) (v0 v1 v2 v6 : GV) (h : Heap) : Option R := (kstr v1).bind fun s => kby s h fun v11 h => n2 k G v0 v2 v6 v11 h
theorem n1_eq (G : KT1 R) (σ : GS) (h : Heap) : KC k 78 c1 σ h (fun x σ h => G x (σ 6) h) = n1 k G (σ 0) (σ 1) (σ 2) (σ 6) h := (kseq (a := c21) (b := c2) rfl (fun σ h => n2_eq k G σ h)).trans (by kernel_rfl)
noncomputable def c22 : Code := cL c0
@[simp] def n0 (G : KT1 R) (v0 v1 v2 : GV) (h : Heap) : Option R := n1 k G v0 v1 v2 (.str { data := #[] }) h
theorem n0_eq (G : KT1 R) (σ : GS) (h : Heap) : KC k 78 c0 σ h (fun x σ h => G x (σ 6) h) = n0 k G (σ 0) (σ 1) (σ 2) h := (kseq (a := c22) (b := c1) rfl (fun σ h => n1_eq k G σ h)).trans (by kernel_rfl)
def run {R : Type} (k : Nat) (a0 : GV) (a1 : GV) (a2 : GV) (h : Heap) (fin : GV → Heap → Option R) : Option R := n0 k (fun x v6 h => kend x (fin v6 h)) a0 a1 a2 h
theorem run_eq {R : Type} (k : Nat) (a0 : GV) (a1 : GV) (a2 : GV) (h : Heap) (fin : GV → Heap → Option R) : kfun PP cfg NN HH k fn.spec_l13Bend [a0, a1, a2] h fin = run k a0 a1 a2 h fin := (kfun_eq (nt := 78) (c := c0) (show PP.funcs[fn.spec_l13Bend]? = some Tryd.f98 by kernel_rfl) (by kernel_rfl) (by kernel_rfl) (fun x σ h => by cases x <;> kernel_rfl)).trans (n0_eq k (fun x v6 h => kend x (fin v6 h)) _ h)
theorem gives {k : Nat} {a0 : GV} {a1 : GV} {a2 : GV} {h : Heap} {r : GV × Heap} (e : run k a0 a1 a2 h finH = some r) : HH fn.spec_l13Bend [a0, a1, a2] h = some r := kω_of ((run_eq k a0 a1 a2 h finH).trans e)
end S.spec_l13Bend
/-! spec_l1DrawBytes -/
namespace S.spec_l1DrawBytes
noncomputable def c0 : Code := bodyOf Tryd.f99
noncomputable def c1 : Code := cR c0
noncomputable def c2 : Code := cR c1
noncomputable def c3 : Code := cR c2
@[simp] def n3 {R : Type} (k : Nat) (G : KT1 R) (v3 : GV) (h : Heap) : Option R := G .ret v3 h
theorem n3_eq (G : KT1 R) (σ : GS) (h : Heap) : KC k 54 c3 σ h (fun x σ h => G x (σ 2) h) = n3 k G (σ 3) h := by kernel_rfl
noncomputable def c4 : Code := cL c2
noncomputable def c5 : Code := cR c4
noncomputable def c6 : Code := cL c5
noncomputable def c7 : Code := cR c6
noncomputable def c8 : Code := cR c7
noncomputable def c9 : Code := cR c8
@[simp] def n9 {R : Type} (k : Nat) (G : KT2 R) (v2 v4 : GV) (h : Heap) : Option R := (kbstr h v4).bind fun v52 => G .nrm v2 v52 h
theorem n9_eq (G : KT2 R) (σ : GS) (h : Heap) : KC k 54 c9 σ h (fun x σ h => G x (σ 2) (σ 3) h) = n9 k G (σ 2) (σ 4) h := by kernel_rfl
noncomputable def c10 : Code := cL c8
noncomputable def c11 : Code := cR c10
@[simp] def n11 {R : Type} (k : Nat) (G : KT3 R) (v0 v2 v3 v4 v37 : GV) (h : Heap) : Option R := kcond v37 ((klen v4).bind fun v40 => (HH fn.spec_l1Below [v0, v40] h).bind fun r => kr r fun v41 h => (ksl 1 v4 (some v41) none none).bind fun v45 => (kapp [(.int .u8 0)] 1 1 .emp v45 h).bind fun r => kr r fun v46 h => (ksl 1 v4 none (some v41) none).bind fun v49 => (kapp [(.int .u8 0)] 1 1 v46 v49 h).bind fun r => kr r fun v50 h => G .nrm v2 v3 v50 h) (G .nrm v2 v3 v4 h)
theorem n11_eq (G : KT3 R) (σ : GS) (h : Heap) : KC k 54 c11 σ h (fun x σ h => G x (σ 2) (σ 3) (σ 4) h) = n11 k G (σ 0) (σ 2) (σ 3) (σ 4) (σ 37) h := by kernel_rfl
noncomputable def c12 : Code := cL c10
noncomputable def o12 : Array Oper := cO c12
@[simp] def g12_2 {R : Type} (k : Nat) (G : KT5 R) (v0 v2 v3 v4 v34 v36 : GV) (h : Heap) : Option R := (kpick v34 v36 (.bool false)).bind fun v37 => G .nrm v0 v2 v3 v4 v37 h
theorem g12_2_eq (G : KT5 R) (σ : GS) (h : Heap) : kgroups PP cfg NN HH 54 o12 [(none, [6])] σ h (fun σ h => G .nrm (σ 0) (σ 2) (σ 3) (σ 4) (σ 37) h) = g12_2 k G (σ 0) (σ 2) (σ 3) (σ 4) (σ 34) (σ 36) h := by kernel_rfl
@[simp] def g12_1 (G : KT5 R) (v0 v2 v3 v4 v34 : GV) (h : Heap) : Option R := bif tr true v34 then (HH fn.spec_l1Once [v0, (.int .i64 2)] h).bind fun r => kr r fun v36 h => g12_2 k G v0 v2 v3 v4 v34 v36 h else g12_2 k G v0 v2 v3 v4 v34 .un h
theorem g12_1_eq (G : KT5 R) (σ : GS) (h : Heap) : kgroups PP cfg NN HH 54 o12 [(some (3, true), [4, 5]), (none, [6])] σ h (fun σ h => G .nrm (σ 0) (σ 2) (σ 3) (σ 4) (σ 37) h) = g12_1 k G (σ 0) (σ 2) (σ 3) (σ 4) (σ 34) h := (kgroups_cons (fun σ h => g12_2_eq k G σ h)).trans (by kernel_rfl)
@[simp] def g12_0 (G : KT5 R) (v0 v2 v3 v4 : GV) (h : Heap) : Option R := (klen v4).bind fun v32 => (kbin .gtr v32 (.int .i64 0)).bind fun v33 => g12_1 k G v0 v2 v3 v4 v33 h
theorem g12_0_eq (G : KT5 R) (σ : GS) (h : Heap) : kgroups PP cfg NN HH 54 o12 [(none, [0, 1, 2, 3]), (some (3, true), [4, 5]), (none, [6])] σ h (fun σ h => G .nrm (σ 0) (σ 2) (σ 3) (σ 4) (σ 37) h) = g12_0 k G (σ 0) (σ 2) (σ 3) (σ 4) h := (kgroups_cons (fun σ h => g12_1_eq k G σ h)).trans (by kernel_rfl)
@[simp] def n12 (G : KT5 R) (v0 v2 v3 v4 : GV) (h : Heap) : Option R := g12_0 k G v0 v2 v3 v4 h
theorem n12_eq (G : KT5 R) (σ : GS) (h : Heap) : KC k 54 c12 σ h (fun x σ h => G x (σ 0) (σ 2) (σ 3) (σ 4) (σ 37) h) = n12 k G (σ 0) (σ 2) (σ 3) (σ 4) h := (kregion_eq (id := 8) (draw := false) (ops := o12) (gs := [(none, [0, 1, 2, 3]), (some (3, true), [4, 5]), (none, [6])]) (by kernel_rfl) (by kernel_rfl) (by kernel_rfl)).trans (g12_0_eq k G σ h)
@[simp] def n10 (G : KT3 R) (v0 v2 v3 v4 : GV) (h : Heap) : Option R := n12 k (fun x v0 v2 v3 v4 v37 h => kx x (n11 k G v0 v2 v3 v4 v37 h) (G x v2 v3 v4 h)) v0 v2 v3 v4 h
theorem n10_eq (G : KT3 R) (σ : GS) (h : Heap) : KC k 54 c10 σ h (fun x σ h => G x (σ 2) (σ 3) (σ 4) h) = n10 k G (σ 0) (σ 2) (σ 3) (σ 4) h := (kseq (b := c11) rfl (fun σ h => n11_eq k G σ h)).trans (n12_eq k (fun x v0 v2 v3 v4 v37 h => kx x (n11 k G v0 v2 v3 v4 v37 h) (G x v2 v3 v4 h)) σ h)
@[simp] def n8 (G : KT2 R) (v0 v2 v3 v4 : GV) (h : Heap) : Option R := n10 k (fun x v2 v3 v4 h => kx x (n9 k G v2 v4 h) (G x v2 v3 h)) v0 v2 v3 v4 h
theorem n8_eq (G : KT2 R) (σ : GS) (h : Heap) : KC k 54 c8 σ h (fun x σ h => G x (σ 2) (σ 3) h) = n8 k G (σ 0) (σ 2) (σ 3) (σ 4) h := (kseq (b := c9) rfl (fun σ h => n9_eq k G σ h)).trans (n10_eq k (fun x v2 v3 v4 h => kx x (n9 k G v2 v4 h) (G x v2 v3 h)) σ h)
noncomputable def c13 : Code := cL c7
noncomputable def c14 : Code := cR c13
noncomputable def c15 : Code := cL c14
noncomputable def c16 : Code := cL c15
noncomputable def c17 : Code := cR c16
noncomputable def c18 : Code := cR c17
@[simp] def n18 {R : Type} (k : Nat) (G : KT5 R) (v0 v2 v3 v4 v5 : GV) (h : Heap) : Option R := (kbin .sub v5 (.int .i64 1)).bind fun v19 => G .nrm v0 v2 v3 v4 v19 h
theorem n18_eq (G : KT5 R) (σ : GS) (h : Heap) : KC k 54 c18 σ h (fun x σ h => G x (σ 0) (σ 2) (σ 3) (σ 4) (σ 5) h) = n18 k G (σ 0) (σ 2) (σ 3) (σ 4) (σ 5) h := by kernel_rfl
noncomputable def c19 : Code := cL c17
noncomputable def c20 : Code := cL c19
@[simp] def n20 {R : Type} (k : Nat) (G : KT5 R) (v0 v2 v3 v4 v5 : GV) (h : Heap) : Option R := (HH fn.spec_l1Byte [v0] h).bind fun r => kr r fun v22 h => (kconvI .u8 v22).bind fun v23 => (gfill (fun i => some (i * 1, 1)) (zeros [(.int .u8 0)] 9) [(0, (.int .u8 128)), (1, (.int .u8 194)), (2, (.int .u8 228)), (3, (.int .u8 240)), (4, (.int .u8 255)), (5, (.int .u8 237)), (6, (.int .u8 160)), (7, (.int .u8 192)), (8, v23)]).bind fun c => kbs 9 1 c h fun v24 h => (HH fn.spec_l1Below [v0, (.int .i64 9)] h).bind fun r => kr r fun v26 h => (kia 1 v24 v26).bind fun v27 => (kload1 h v27).bind fun v28 => (gfill (fun i => some (i * 1, 1)) (zeros [(.int .u8 0)] 1) [(0, v28)]).bind fun c => kbs 1 1 c h fun v29 h => (kapp [(.int .u8 0)] 1 1 v4 v29 h).bind fun r => kr r fun v30 h => G .nrm v0 v2 v3 v30 v5 h
theorem n20_eq (G : KT5 R) (σ : GS) (h : Heap) : KC k 54 c20 σ h (fun x σ h => G x (σ 0) (σ 2) (σ 3) (σ 4) (σ 5) h) = n20 k G (σ 0) (σ 2) (σ 3) (σ 4) (σ 5) h := by kernel_rfl
@[simp] def n19 (G : KT5 R) (v0 v2 v3 v4 v5 : GV) (h : Heap) : Option R := n20 k (fun x v0 v2 v3 v4 v5 h => kb 1 x fun x => G x v0 v2 v3 v4 v5 h) v0 v2 v3 v4 v5 h
theorem n19_eq (G : KT5 R) (σ : GS) (h : Heap) : KC k 54 c19 σ h (fun x σ h => G x (σ 0) (σ 2) (σ 3) (σ 4) (σ 5) h) = n19 k G (σ 0) (σ 2) (σ 3) (σ 4) (σ 5) h := (kblock_eq (a := c20) rfl).trans (n20_eq k (fun x v0 v2 v3 v4 v5 h => kb 1 x fun x => G x v0 v2 v3 v4 v5 h) σ h)
@[simp] def n17 (G : KT5 R) (v0 v2 v3 v4 v5 : GV) (h : Heap) : Option R := n19 k (fun x v0 v2 v3 v4 v5 h => kx x (n18 k G v0 v2 v3 v4 v5 h) (G x v0 v2 v3 v4 v5 h)) v0 v2 v3 v4 v5 h
theorem n17_eq (G : KT5 R) (σ : GS) (h : Heap) : KC k 54 c17 σ h (fun x σ h => G x (σ 0) (σ 2) (σ 3) (σ 4) (σ 5) h) = n17 k G (σ 0) (σ 2) (σ 3) (σ 4) (σ 5) h := (kseq (b := c18) rfl (fun σ h => n18_eq k G σ h)).trans (n19_eq k (fun x v0 v2 v3 v4 v5 h => kx x (n18 k G v0 v2 v3 v4 v5 h) (G x v0 v2 v3 v4 v5 h)) σ h)
noncomputable def c21 : Code := cL c16
@[simp] def n16 (G : KT5 R) (v0 v2 v3 v4 v5 : GV) (h : Heap) : Option R := (kbin .gtr v5 (.int .i64 0)).bind fun v17 => kcond v17 (n17 k G v0 v2 v3 v4 v5 h) (G (.ext 0) v0 v2 v3 v4 v5 h)
theorem n16_eq (G : KT5 R) (σ : GS) (h : Heap) : KC k 54 c16 σ h (fun x σ h => G x (σ 0) (σ 2) (σ 3) (σ 4) (σ 5) h) = n16 k G (σ 0) (σ 2) (σ 3) (σ 4) (σ 5) h := (kseq (a := c21) (b := c17) rfl (fun σ h => n17_eq k G σ h)).trans (by kernel_rfl)
def l15 {R : Type} (k : Nat) (G : KT4 R) : Nat → GV → GV → GV → GV → GV → Heap → Option R
  | 0, _, _, _, _, _, _ => none
  | r + 1, v0, v2, v3, v4, v5, h => n16 k (fun x v0 v2 v3 v4 v5 h => kx x (l15 k G r v0 v2 v3 v4 v5 h) (G x v0 v2 v3 v4 h)) v0 v2 v3 v4 v5 h
theorem l15_eq {R : Type} (k : Nat) (G : KT4 R) : ∀ (r : Nat) (σ : GS) (h : Heap), kloop (fun σ h K => KC k 54 c16 σ h K) r σ h (fun x σ h => G x (σ 0) (σ 2) (σ 3) (σ 4) h) = l15 k G r (σ 0) (σ 2) (σ 3) (σ 4) (σ 5) h
  | 0, _, _ => rfl
  | r + 1, σ, h => (kloop_eq (fun σ h => l15_eq k G r σ h)).trans (n16_eq k (fun x v0 v2 v3 v4 v5 h => kx x (l15 k G r v0 v2 v3 v4 v5 h) (G x v0 v2 v3 v4 h)) σ h)
@[simp] def n15 (G : KT4 R) (v0 v2 v3 v4 v5 : GV) (h : Heap) : Option R := l15 k G k v0 v2 v3 v4 v5 h
theorem n15_eq (G : KT4 R) (σ : GS) (h : Heap) : KC k 54 c15 σ h (fun x σ h => G x (σ 0) (σ 2) (σ 3) (σ 4) h) = n15 k G (σ 0) (σ 2) (σ 3) (σ 4) (σ 5) h := (kloopc_eq (a := c16) rfl).trans (l15_eq k G k σ h)
@[simp] def n14 (G : KT4 R) (v0 v2 v3 v4 v5 : GV) (h : Heap) : Option R := n15 k (fun x v0 v2 v3 v4 h => kb 0 x fun x => G x v0 v2 v3 v4 h) v0 v2 v3 v4 v5 h
theorem n14_eq (G : KT4 R) (σ : GS) (h : Heap) : KC k 54 c14 σ h (fun x σ h => G x (σ 0) (σ 2) (σ 3) (σ 4) h) = n14 k G (σ 0) (σ 2) (σ 3) (σ 4) (σ 5) h := (kblock_eq (a := c15) rfl).trans (n15_eq k (fun x v0 v2 v3 v4 h => kb 0 x fun x => G x v0 v2 v3 v4 h) σ h)
noncomputable def c22 : Code := cL c13
@[simp] def n13 (G : KT4 R) (v0 v2 v3 v4 : GV) (h : Heap) : Option R := (HH fn.spec_l1Below [v0, (.int .i64 3)] h).bind fun r => kr r fun v15 h => n14 k G v0 v2 v3 v4 v15 h
theorem n13_eq (G : KT4 R) (σ : GS) (h : Heap) : KC k 54 c13 σ h (fun x σ h => G x (σ 0) (σ 2) (σ 3) (σ 4) h) = n13 k G (σ 0) (σ 2) (σ 3) (σ 4) h := (kseq (a := c22) (b := c14) rfl (fun σ h => n14_eq k G σ h)).trans (by kernel_rfl)
@[simp] def n7 (G : KT2 R) (v0 v2 v3 v4 : GV) (h : Heap) : Option R := n13 k (fun x v0 v2 v3 v4 h => kx x (n8 k G v0 v2 v3 v4 h) (G x v2 v3 h)) v0 v2 v3 v4 h
theorem n7_eq (G : KT2 R) (σ : GS) (h : Heap) : KC k 54 c7 σ h (fun x σ h => G x (σ 2) (σ 3) h) = n7 k G (σ 0) (σ 2) (σ 3) (σ 4) h := (kseq (b := c8) rfl (fun σ h => n8_eq k G σ h)).trans (n13_eq k (fun x v0 v2 v3 v4 h => kx x (n8 k G v0 v2 v3 v4 h) (G x v2 v3 h)) σ h)
noncomputable def c23 : Code := cL c6
@[simp] def n6 (G : KT2 R) (v0 v2 v3 : GV) (h : Heap) : Option R := (kstr v3).bind fun s => kby s h fun v13 h => n7 k G v0 v2 v3 v13 h
theorem n6_eq (G : KT2 R) (σ : GS) (h : Heap) : KC k 54 c6 σ h (fun x σ h => G x (σ 2) (σ 3) h) = n6 k G (σ 0) (σ 2) (σ 3) h := (kseq (a := c23) (b := c7) rfl (fun σ h => n7_eq k G σ h)).trans (by kernel_rfl)
noncomputable def c24 : Code := cR c5
@[simp] def n24 {R : Type} (k : Nat) (G : KT2 R) (v2 v3 : GV) (h : Heap) : Option R := G .nrm v2 v3 h
theorem n24_eq (G : KT2 R) (σ : GS) (h : Heap) : KC k 54 c24 σ h (fun x σ h => G x (σ 2) (σ 3) h) = n24 k G (σ 2) (σ 3) h := by kernel_rfl
@[simp] def n5 (G : KT2 R) (v0 v2 v3 v11 : GV) (h : Heap) : Option R := kcond v11 (n6 k G v0 v2 v3 h) (n24 k G v2 v3 h)
theorem n5_eq (G : KT2 R) (σ : GS) (h : Heap) : KC k 54 c5 σ h (fun x σ h => G x (σ 2) (σ 3) h) = n5 k G (σ 0) (σ 2) (σ 3) (σ 11) h := (kcond_eq (a := c6) (b := c24) rfl (by rfl)).trans (congr (congrArg (kcond (σ 11)) (n6_eq k G σ h)) (n24_eq k G σ h))
noncomputable def c25 : Code := cL c4
@[simp] def n4 (G : KT2 R) (v0 v2 v3 : GV) (h : Heap) : Option R := (HH fn.spec_l1Once [v0, (.int .i64 2)] h).bind fun r => kr r fun v11 h => n5 k G v0 v2 v3 v11 h
theorem n4_eq (G : KT2 R) (σ : GS) (h : Heap) : KC k 54 c4 σ h (fun x σ h => G x (σ 2) (σ 3) h) = n4 k G (σ 0) (σ 2) (σ 3) h := (kseq (a := c25) (b := c5) rfl (fun σ h => n5_eq k G σ h)).trans (by kernel_rfl)
@[simp] def n2 (G : KT1 R) (v0 v2 v3 : GV) (h : Heap) : Option R := n4 k (fun x v2 v3 h => kx x (n3 k G v3 h) (G x v2 h)) v0 v2 v3 h
theorem n2_eq (G : KT1 R) (σ : GS) (h : Heap) : KC k 54 c2 σ h (fun x σ h => G x (σ 2) h) = n2 k G (σ 0) (σ 2) (σ 3) h := (kseq (b := c3) rfl (fun σ h => n3_eq k G σ h)).trans (n4_eq k (fun x v2 v3 h => kx x (n3 k G v3 h) (G x v2 h)) σ h)
noncomputable def c26 : Code := cL c1
@[simp] def n1 (G : KT1 R) (v0 v2 : GV) (h : Heap) : Option R := (HH fn.spec_l1DrawRunes [v0] h).bind fun r => kr r fun v8 h => (kN NN fn.spec_Text [v8] h).bind fun v9 => n2 k G v0 v2 v9 h
theorem n1_eq (G : KT1 R) (σ : GS) (h : Heap) : KC k 54 c1 σ h (fun x σ h => G x (σ 2) h) = n1 k G (σ 0) (σ 2) h := (kseq (a := c26) (b := c2) rfl (fun σ h => n2_eq k G σ h)).trans (by kernel_rfl)
noncomputable def c27 : Code := cL c0
@[simp] def n0 (G : KT1 R) (v0 : GV) (h : Heap) : Option R := n1 k G v0 (.str { data := #[] }) h
theorem n0_eq (G : KT1 R) (σ : GS) (h : Heap) : KC k 54 c0 σ h (fun x σ h => G x (σ 2) h) = n0 k G (σ 0) h := (kseq (a := c27) (b := c1) rfl (fun σ h => n1_eq k G σ h)).trans (by kernel_rfl)
def run {R : Type} (k : Nat) (a0 : GV) (h : Heap) (fin : GV → Heap → Option R) : Option R := n0 k (fun x v2 h => kend x (fin v2 h)) a0 h
theorem run_eq {R : Type} (k : Nat) (a0 : GV) (h : Heap) (fin : GV → Heap → Option R) : kfun PP cfg NN HH k fn.spec_l1DrawBytes [a0] h fin = run k a0 h fin := (kfun_eq (nt := 54) (c := c0) (show PP.funcs[fn.spec_l1DrawBytes]? = some Tryd.f99 by kernel_rfl) (by kernel_rfl) (by kernel_rfl) (fun x σ h => by cases x <;> kernel_rfl)).trans (n0_eq k (fun x v2 h => kend x (fin v2 h)) _ h)
theorem gives {k : Nat} {a0 : GV} {h : Heap} {r : GV × Heap} (e : run k a0 h finH = some r) : HH fn.spec_l1DrawBytes [a0] h = some r := kω_of ((run_eq k a0 h finH).trans e)
end S.spec_l1DrawBytes
/-! spec_l1Byte -/
namespace S.spec_l1Byte
noncomputable def c0 : Code := bodyOf Tryd.f150
noncomputable def c1 : Code := cR c0
noncomputable def c2 : Code := cR c1
noncomputable def c3 : Code := cR c2
noncomputable def c4 : Code := cR c3
@[simp] def n4 {R : Type} (k : Nat) (G : KT1 R) (v3 : GV) (h : Heap) : Option R := G .ret v3 h
theorem n4_eq (G : KT1 R) (σ : GS) (h : Heap) : KC k 58 c4 σ h (fun x σ h => G x (σ 2) h) = n4 k G (σ 3) h := by kernel_rfl
noncomputable def c5 : Code := cL c3
@[simp] def n3 (G : KT1 R) (v0 v2 v3 : GV) (h : Heap) : Option R := (knil v0).bind fun v26 => (kfa 1 v26).bind fun v27 => (kload1 h v27).bind fun v28 => (knil v0).bind fun v30 => (kfa 0 v30).bind fun v31 => (kload1 h v31).bind fun v32 => (klen v32).bind fun v33 => (kbin .lss v28 v33).bind fun v34 => kcond v34 ((knil v0).bind fun v37 => (kfa 0 v37).bind fun v38 => (kload1 h v38).bind fun v39 => (knil v0).bind fun v41 => (kfa 1 v41).bind fun v42 => (kload1 h v42).bind fun v43 => (kia 1 v39 v43).bind fun v44 => (kload1 h v44).bind fun v45 => (kconvI .i64 v45).bind fun v46 => (kbin .add v3 v46).bind fun v47 => (kbin .and v47 (.int .i64 255)).bind fun v48 => (knil v0).bind fun v51 => (kfa 1 v51).bind fun v52 => (kload1 h v52).bind fun v53 => (kbin .add v53 (.int .i64 1)).bind fun v54 => (knil v0).bind fun v55 => (kfa 1 v55).bind fun v56 => (kstore 1 h v56 v54).bind fun h => n4 k G v48 h) (n4 k G v3 h)
theorem n3_eq (G : KT1 R) (σ : GS) (h : Heap) : KC k 58 c3 σ h (fun x σ h => G x (σ 2) h) = n3 k G (σ 0) (σ 2) (σ 3) h := (kseq (a := c5) (b := c4) rfl (fun σ h => n4_eq k G σ h)).trans (by kernel_rfl)
noncomputable def c6 : Code := cL c2
@[simp] def n2 (G : KT1 R) (v0 v2 : GV) (h : Heap) : Option R := (knil v0).bind fun v14 => (kfa 2 v14).bind fun v15 => (kload1 h v15).bind fun v16 => (kbin .shr v16 (.int .u64 33)).bind fun v17 => (knil v0).bind fun v19 => (kfa 2 v19).bind fun v20 => (kload1 h v20).bind fun v21 => (kbin .shr v21 (.int .u64 45)).bind fun v22 => (kbin .xor v17 v22).bind fun v23 => (kbin .and v23 (.int .i64 255)).bind fun v24 => n3 k G v0 v2 v24 h
theorem n2_eq (G : KT1 R) (σ : GS) (h : Heap) : KC k 58 c2 σ h (fun x σ h => G x (σ 2) h) = n2 k G (σ 0) (σ 2) h := (kseq (a := c6) (b := c3) rfl (fun σ h => n3_eq k G σ h)).trans (by kernel_rfl)
noncomputable def c7 : Code := cL c1
@[simp] def n1 (G : KT1 R) (v0 v2 : GV) (h : Heap) : Option R := (knil v0).bind fun v6 => (kfa 2 v6).bind fun v7 => (kload1 h v7).bind fun v8 => (kbin .mul v8 (.int .i64 6364136223846793005)).bind fun v9 => (kbin .add v9 (.int .i64 1442695040888963407)).bind fun v10 => (knil v0).bind fun v11 => (kfa 2 v11).bind fun v12 => (kstore 1 h v12 v10).bind fun h => n2 k G v0 v2 h
theorem n1_eq (G : KT1 R) (σ : GS) (h : Heap) : KC k 58 c1 σ h (fun x σ h => G x (σ 2) h) = n1 k G (σ 0) (σ 2) h := (kseq (a := c7) (b := c2) rfl (fun σ h => n2_eq k G σ h)).trans (by kernel_rfl)
noncomputable def c8 : Code := cL c0
@[simp] def n0 (G : KT1 R) (v0 : GV) (h : Heap) : Option R := n1 k G v0 (.int .i64 0) h
theorem n0_eq (G : KT1 R) (σ : GS) (h : Heap) : KC k 58 c0 σ h (fun x σ h => G x (σ 2) h) = n0 k G (σ 0) h := (kseq (a := c8) (b := c1) rfl (fun σ h => n1_eq k G σ h)).trans (by kernel_rfl)
def run {R : Type} (k : Nat) (a0 : GV) (h : Heap) (fin : GV → Heap → Option R) : Option R := n0 k (fun x v2 h => kend x (fin v2 h)) a0 h
theorem run_eq {R : Type} (k : Nat) (a0 : GV) (h : Heap) (fin : GV → Heap → Option R) : kfun PP cfg NN HH k fn.spec_l1Byte [a0] h fin = run k a0 h fin := (kfun_eq (nt := 58) (c := c0) (show PP.funcs[fn.spec_l1Byte]? = some Tryd.f150 by kernel_rfl) (by kernel_rfl) (by kernel_rfl) (fun x σ h => by cases x <;> kernel_rfl)).trans (n0_eq k (fun x v2 h => kend x (fin v2 h)) _ h)
theorem gives {k : Nat} {a0 : GV} {h : Heap} {r : GV × Heap} (e : run k a0 h finH = some r) : HH fn.spec_l1Byte [a0] h = some r := kω_of ((run_eq k a0 h finH).trans e)
end S.spec_l1Byte
/-! spec_Text -/
namespace S.spec_Text
noncomputable def c0 : Code := bodyOf Tryd.f151
noncomputable def c1 : Code := cR c0
noncomputable def c2 : Code := cR c1
noncomputable def c3 : Code := cR c2
@[simp] def n3 {R : Type} (k : Nat) (G : KT1 R) (v3 : GV) (h : Heap) : Option R := (kbstr h v3).bind fun v25 => G .ret v25 h
theorem n3_eq (G : KT1 R) (σ : GS) (h : Heap) : KC k 26 c3 σ h (fun x σ h => G x (σ 2) h) = n3 k G (σ 3) h := by kernel_rfl
noncomputable def c4 : Code := cL c2
noncomputable def c5 : Code := cR c4
noncomputable def c6 : Code := cL c5
noncomputable def c7 : Code := cL c6
noncomputable def c8 : Code := cR c7
noncomputable def c9 : Code := cR c8
@[simp] def n9 {R : Type} (k : Nat) (G : KT4 R) (v0 v2 v3 v4 : GV) (h : Heap) : Option R := (kbin .add v4 (.int .i64 1)).bind fun v12 => G .nrm v0 v2 v3 v12 h
theorem n9_eq (G : KT4 R) (σ : GS) (h : Heap) : KC k 26 c9 σ h (fun x σ h => G x (σ 0) (σ 2) (σ 3) (σ 4) h) = n9 k G (σ 0) (σ 2) (σ 3) (σ 4) h := by kernel_rfl
noncomputable def c10 : Code := cL c8
noncomputable def c11 : Code := cL c10
noncomputable def c12 : Code := cR c11
noncomputable def c13 : Code := cR c12
@[simp] def n13 {R : Type} (k : Nat) (G : KT4 R) (v0 v2 v3 v4 v5 : GV) (h : Heap) : Option R := (kN NN fn.spec_l1Put [v5] h).bind fun v22 => (kapp [(.int .u8 0)] 1 1 v3 v22 h).bind fun r => kr r fun v23 h => G .nrm v0 v2 v23 v4 h
theorem n13_eq (G : KT4 R) (σ : GS) (h : Heap) : KC k 26 c13 σ h (fun x σ h => G x (σ 0) (σ 2) (σ 3) (σ 4) h) = n13 k G (σ 0) (σ 2) (σ 3) (σ 4) (σ 5) h := by kernel_rfl
noncomputable def c14 : Code := cL c12
@[simp] def n12 (G : KT4 R) (v0 v2 v3 v4 v5 : GV) (h : Heap) : Option R := (kN NN fn.spec_RuneOk [v5] h).bind fun v18 => (kun .not v18).bind fun v19 => kcond v19 (n13 k G v0 v2 v3 v4 (.int .i64 65533) h) (n13 k G v0 v2 v3 v4 v5 h)
theorem n12_eq (G : KT4 R) (σ : GS) (h : Heap) : KC k 26 c12 σ h (fun x σ h => G x (σ 0) (σ 2) (σ 3) (σ 4) h) = n12 k G (σ 0) (σ 2) (σ 3) (σ 4) (σ 5) h := (kseq (a := c14) (b := c13) rfl (fun σ h => n13_eq k G σ h)).trans (by kernel_rfl)
noncomputable def c15 : Code := cL c11
@[simp] def n11 (G : KT4 R) (v0 v2 v3 v4 : GV) (h : Heap) : Option R := (kia 1 v0 v4).bind fun v15 => (kload1 h v15).bind fun v16 => n12 k G v0 v2 v3 v4 v16 h
theorem n11_eq (G : KT4 R) (σ : GS) (h : Heap) : KC k 26 c11 σ h (fun x σ h => G x (σ 0) (σ 2) (σ 3) (σ 4) h) = n11 k G (σ 0) (σ 2) (σ 3) (σ 4) h := (kseq (a := c15) (b := c12) rfl (fun σ h => n12_eq k G σ h)).trans (by kernel_rfl)
@[simp] def n10 (G : KT4 R) (v0 v2 v3 v4 : GV) (h : Heap) : Option R := n11 k (fun x v0 v2 v3 v4 h => kb 1 x fun x => G x v0 v2 v3 v4 h) v0 v2 v3 v4 h
theorem n10_eq (G : KT4 R) (σ : GS) (h : Heap) : KC k 26 c10 σ h (fun x σ h => G x (σ 0) (σ 2) (σ 3) (σ 4) h) = n10 k G (σ 0) (σ 2) (σ 3) (σ 4) h := (kblock_eq (a := c11) rfl).trans (n11_eq k (fun x v0 v2 v3 v4 h => kb 1 x fun x => G x v0 v2 v3 v4 h) σ h)
@[simp] def n8 (G : KT4 R) (v0 v2 v3 v4 : GV) (h : Heap) : Option R := n10 k (fun x v0 v2 v3 v4 h => kx x (n9 k G v0 v2 v3 v4 h) (G x v0 v2 v3 v4 h)) v0 v2 v3 v4 h
theorem n8_eq (G : KT4 R) (σ : GS) (h : Heap) : KC k 26 c8 σ h (fun x σ h => G x (σ 0) (σ 2) (σ 3) (σ 4) h) = n8 k G (σ 0) (σ 2) (σ 3) (σ 4) h := (kseq (b := c9) rfl (fun σ h => n9_eq k G σ h)).trans (n10_eq k (fun x v0 v2 v3 v4 h => kx x (n9 k G v0 v2 v3 v4 h) (G x v0 v2 v3 v4 h)) σ h)
noncomputable def c16 : Code := cL c7
@[simp] def n7 (G : KT4 R) (v0 v2 v3 v4 : GV) (h : Heap) : Option R := (klen v0).bind fun v9 => (kbin .lss v4 v9).bind fun v10 => kcond v10 (n8 k G v0 v2 v3 v4 h) (G (.ext 0) v0 v2 v3 v4 h)
theorem n7_eq (G : KT4 R) (σ : GS) (h : Heap) : KC k 26 c7 σ h (fun x σ h => G x (σ 0) (σ 2) (σ 3) (σ 4) h) = n7 k G (σ 0) (σ 2) (σ 3) (σ 4) h := (kseq (a := c16) (b := c8) rfl (fun σ h => n8_eq k G σ h)).trans (by kernel_rfl)
def l6 {R : Type} (k : Nat) (G : KT2 R) : Nat → GV → GV → GV → GV → Heap → Option R
  | 0, _, _, _, _, _ => none
  | r + 1, v0, v2, v3, v4, h => n7 k (fun x v0 v2 v3 v4 h => kx x (l6 k G r v0 v2 v3 v4 h) (G x v2 v3 h)) v0 v2 v3 v4 h
theorem l6_eq {R : Type} (k : Nat) (G : KT2 R) : ∀ (r : Nat) (σ : GS) (h : Heap), kloop (fun σ h K => KC k 26 c7 σ h K) r σ h (fun x σ h => G x (σ 2) (σ 3) h) = l6 k G r (σ 0) (σ 2) (σ 3) (σ 4) h
  | 0, _, _ => rfl
  | r + 1, σ, h => (kloop_eq (fun σ h => l6_eq k G r σ h)).trans (n7_eq k (fun x v0 v2 v3 v4 h => kx x (l6 k G r v0 v2 v3 v4 h) (G x v2 v3 h)) σ h)
@[simp] def n6 (G : KT2 R) (v0 v2 v3 v4 : GV) (h : Heap) : Option R := l6 k G k v0 v2 v3 v4 h
theorem n6_eq (G : KT2 R) (σ : GS) (h : Heap) : KC k 26 c6 σ h (fun x σ h => G x (σ 2) (σ 3) h) = n6 k G (σ 0) (σ 2) (σ 3) (σ 4) h := (kloopc_eq (a := c7) rfl).trans (l6_eq k G k σ h)
@[simp] def n5 (G : KT2 R) (v0 v2 v3 v4 : GV) (h : Heap) : Option R := n6 k (fun x v2 v3 h => kb 0 x fun x => G x v2 v3 h) v0 v2 v3 v4 h
theorem n5_eq (G : KT2 R) (σ : GS) (h : Heap) : KC k 26 c5 σ h (fun x σ h => G x (σ 2) (σ 3) h) = n5 k G (σ 0) (σ 2) (σ 3) (σ 4) h := (kblock_eq (a := c6) rfl).trans (n6_eq k (fun x v2 v3 h => kb 0 x fun x => G x v2 v3 h) σ h)
noncomputable def c17 : Code := cL c4
@[simp] def n4 (G : KT2 R) (v0 v2 v3 : GV) (h : Heap) : Option R := n5 k G v0 v2 v3 (.int .i64 0) h
theorem n4_eq (G : KT2 R) (σ : GS) (h : Heap) : KC k 26 c4 σ h (fun x σ h => G x (σ 2) (σ 3) h) = n4 k G (σ 0) (σ 2) (σ 3) h := (kseq (a := c17) (b := c5) rfl (fun σ h => n5_eq k G σ h)).trans (by kernel_rfl)
@[simp] def n2 (G : KT1 R) (v0 v2 v3 : GV) (h : Heap) : Option R := n4 k (fun x v2 v3 h => kx x (n3 k G v3 h) (G x v2 h)) v0 v2 v3 h
theorem n2_eq (G : KT1 R) (σ : GS) (h : Heap) : KC k 26 c2 σ h (fun x σ h => G x (σ 2) h) = n2 k G (σ 0) (σ 2) (σ 3) h := (kseq (b := c3) rfl (fun σ h => n3_eq k G σ h)).trans (n4_eq k (fun x v2 v3 h => kx x (n3 k G v3 h) (G x v2 h)) σ h)
noncomputable def c18 : Code := cL c1
@[simp] def n1 (G : KT1 R) (v0 v2 : GV) (h : Heap) : Option R := n2 k G v0 v2 .emp h
theorem n1_eq (G : KT1 R) (σ : GS) (h : Heap) : KC k 26 c1 σ h (fun x σ h => G x (σ 2) h) = n1 k G (σ 0) (σ 2) h := (kseq (a := c18) (b := c2) rfl (fun σ h => n2_eq k G σ h)).trans (by kernel_rfl)
noncomputable def c19 : Code := cL c0
@[simp] def n0 (G : KT1 R) (v0 : GV) (h : Heap) : Option R := n1 k G v0 (.str { data := #[] }) h
theorem n0_eq (G : KT1 R) (σ : GS) (h : Heap) : KC k 26 c0 σ h (fun x σ h => G x (σ 2) h) = n0 k G (σ 0) h := (kseq (a := c19) (b := c1) rfl (fun σ h => n1_eq k G σ h)).trans (by kernel_rfl)
def run {R : Type} (k : Nat) (a0 : GV) (h : Heap) (fin : GV → Heap → Option R) : Option R := n0 k (fun x v2 h => kend x (fin v2 h)) a0 h
theorem run_eq {R : Type} (k : Nat) (a0 : GV) (h : Heap) (fin : GV → Heap → Option R) : kfun PP cfg NN HH k fn.spec_Text [a0] h fin = run k a0 h fin := (kfun_eq (nt := 26) (c := c0) (show PP.funcs[fn.spec_Text]? = some Tryd.f151 by kernel_rfl) (by kernel_rfl) (by kernel_rfl) (fun x σ h => by cases x <;> kernel_rfl)).trans (n0_eq k (fun x v2 h => kend x (fin v2 h)) _ h)
theorem gives {k : Nat} {a0 : GV} {v : GV} (e : run k a0 [] finN = some v) : NN fn.spec_Text [a0] = some v := nω_of (by kernel_rfl) ((run_eq k a0 [] finN).trans e)
end S.spec_Text
/-! spec_l1DrawRunes -/
namespace S.spec_l1DrawRunes
noncomputable def c0 : Code := bodyOf Tryd.f152
noncomputable def c1 : Code := cR c0
noncomputable def c2 : Code := cR c1
noncomputable def c3 : Code := cR c2
@[simp] def n3 {R : Type} (k : Nat) (G : KT1 R) (v3 : GV) (h : Heap) : Option R := G .ret v3 h
theorem n3_eq (G : KT1 R) (σ : GS) (h : Heap) : KC k 18 c3 σ h (fun x σ h => G x (σ 2) h) = n3 k G (σ 3) h := by kernel_rfl
noncomputable def c4 : Code := cL c2
noncomputable def c5 : Code := cR c4
noncomputable def c6 : Code := cL c5
noncomputable def c7 : Code := cL c6
noncomputable def c8 : Code := cR c7
noncomputable def c9 : Code := cR c8
@[simp] def n9 {R : Type} (k : Nat) (G : KT4 R) (v0 v2 v3 v4 : GV) (h : Heap) : Option R := (kbin .sub v4 (.int .i64 1)).bind fun v11 => G .nrm v0 v2 v3 v11 h
theorem n9_eq (G : KT4 R) (σ : GS) (h : Heap) : KC k 18 c9 σ h (fun x σ h => G x (σ 0) (σ 2) (σ 3) (σ 4) h) = n9 k G (σ 0) (σ 2) (σ 3) (σ 4) h := by kernel_rfl
noncomputable def c10 : Code := cL c8
noncomputable def c11 : Code := cL c10
@[simp] def n11 {R : Type} (k : Nat) (G : KT4 R) (v0 v2 v3 v4 : GV) (h : Heap) : Option R := (HH fn.spec_l1DrawRune [v0] h).bind fun r => kr r fun v14 h => (gfill (fun i => some (i * 1, 1)) (zeros [(.int .i64 0)] 1) [(0, v14)]).bind fun c => kbs 1 1 c h fun v15 h => (kapp [(.int .i64 0)] 1 8 v3 v15 h).bind fun r => kr r fun v16 h => G .nrm v0 v2 v16 v4 h
theorem n11_eq (G : KT4 R) (σ : GS) (h : Heap) : KC k 18 c11 σ h (fun x σ h => G x (σ 0) (σ 2) (σ 3) (σ 4) h) = n11 k G (σ 0) (σ 2) (σ 3) (σ 4) h := by kernel_rfl
@[simp] def n10 (G : KT4 R) (v0 v2 v3 v4 : GV) (h : Heap) : Option R := n11 k (fun x v0 v2 v3 v4 h => kb 1 x fun x => G x v0 v2 v3 v4 h) v0 v2 v3 v4 h
theorem n10_eq (G : KT4 R) (σ : GS) (h : Heap) : KC k 18 c10 σ h (fun x σ h => G x (σ 0) (σ 2) (σ 3) (σ 4) h) = n10 k G (σ 0) (σ 2) (σ 3) (σ 4) h := (kblock_eq (a := c11) rfl).trans (n11_eq k (fun x v0 v2 v3 v4 h => kb 1 x fun x => G x v0 v2 v3 v4 h) σ h)
@[simp] def n8 (G : KT4 R) (v0 v2 v3 v4 : GV) (h : Heap) : Option R := n10 k (fun x v0 v2 v3 v4 h => kx x (n9 k G v0 v2 v3 v4 h) (G x v0 v2 v3 v4 h)) v0 v2 v3 v4 h
theorem n8_eq (G : KT4 R) (σ : GS) (h : Heap) : KC k 18 c8 σ h (fun x σ h => G x (σ 0) (σ 2) (σ 3) (σ 4) h) = n8 k G (σ 0) (σ 2) (σ 3) (σ 4) h := (kseq (b := c9) rfl (fun σ h => n9_eq k G σ h)).trans (n10_eq k (fun x v0 v2 v3 v4 h => kx x (n9 k G v0 v2 v3 v4 h) (G x v0 v2 v3 v4 h)) σ h)
noncomputable def c12 : Code := cL c7
@[simp] def n7 (G : KT4 R) (v0 v2 v3 v4 : GV) (h : Heap) : Option R := (kbin .gtr v4 (.int .i64 0)).bind fun v9 => kcond v9 (n8 k G v0 v2 v3 v4 h) (G (.ext 0) v0 v2 v3 v4 h)
theorem n7_eq (G : KT4 R) (σ : GS) (h : Heap) : KC k 18 c7 σ h (fun x σ h => G x (σ 0) (σ 2) (σ 3) (σ 4) h) = n7 k G (σ 0) (σ 2) (σ 3) (σ 4) h := (kseq (a := c12) (b := c8) rfl (fun σ h => n8_eq k G σ h)).trans (by kernel_rfl)
def l6 {R : Type} (k : Nat) (G : KT2 R) : Nat → GV → GV → GV → GV → Heap → Option R
  | 0, _, _, _, _, _ => none
  | r + 1, v0, v2, v3, v4, h => n7 k (fun x v0 v2 v3 v4 h => kx x (l6 k G r v0 v2 v3 v4 h) (G x v2 v3 h)) v0 v2 v3 v4 h
theorem l6_eq {R : Type} (k : Nat) (G : KT2 R) : ∀ (r : Nat) (σ : GS) (h : Heap), kloop (fun σ h K => KC k 18 c7 σ h K) r σ h (fun x σ h => G x (σ 2) (σ 3) h) = l6 k G r (σ 0) (σ 2) (σ 3) (σ 4) h
  | 0, _, _ => rfl
  | r + 1, σ, h => (kloop_eq (fun σ h => l6_eq k G r σ h)).trans (n7_eq k (fun x v0 v2 v3 v4 h => kx x (l6 k G r v0 v2 v3 v4 h) (G x v2 v3 h)) σ h)
@[simp] def n6 (G : KT2 R) (v0 v2 v3 v4 : GV) (h : Heap) : Option R := l6 k G k v0 v2 v3 v4 h
theorem n6_eq (G : KT2 R) (σ : GS) (h : Heap) : KC k 18 c6 σ h (fun x σ h => G x (σ 2) (σ 3) h) = n6 k G (σ 0) (σ 2) (σ 3) (σ 4) h := (kloopc_eq (a := c7) rfl).trans (l6_eq k G k σ h)
@[simp] def n5 (G : KT2 R) (v0 v2 v3 v4 : GV) (h : Heap) : Option R := n6 k (fun x v2 v3 h => kb 0 x fun x => G x v2 v3 h) v0 v2 v3 v4 h
theorem n5_eq (G : KT2 R) (σ : GS) (h : Heap) : KC k 18 c5 σ h (fun x σ h => G x (σ 2) (σ 3) h) = n5 k G (σ 0) (σ 2) (σ 3) (σ 4) h := (kblock_eq (a := c6) rfl).trans (n6_eq k (fun x v2 v3 h => kb 0 x fun x => G x v2 v3 h) σ h)
noncomputable def c13 : Code := cL c4
@[simp] def n4 (G : KT2 R) (v0 v2 v3 : GV) (h : Heap) : Option R := (HH fn.spec_l1Below [v0, (.int .i64 9)] h).bind fun r => kr r fun v7 h => n5 k G v0 v2 v3 v7 h
theorem n4_eq (G : KT2 R) (σ : GS) (h : Heap) : KC k 18 c4 σ h (fun x σ h => G x (σ 2) (σ 3) h) = n4 k G (σ 0) (σ 2) (σ 3) h := (kseq (a := c13) (b := c5) rfl (fun σ h => n5_eq k G σ h)).trans (by kernel_rfl)
@[simp] def n2 (G : KT1 R) (v0 v2 v3 : GV) (h : Heap) : Option R := n4 k (fun x v2 v3 h => kx x (n3 k G v3 h) (G x v2 h)) v0 v2 v3 h
theorem n2_eq (G : KT1 R) (σ : GS) (h : Heap) : KC k 18 c2 σ h (fun x σ h => G x (σ 2) h) = n2 k G (σ 0) (σ 2) (σ 3) h := (kseq (b := c3) rfl (fun σ h => n3_eq k G σ h)).trans (n4_eq k (fun x v2 v3 h => kx x (n3 k G v3 h) (G x v2 h)) σ h)
noncomputable def c14 : Code := cL c1
@[simp] def n1 (G : KT1 R) (v0 v2 : GV) (h : Heap) : Option R := n2 k G v0 v2 .emp h
theorem n1_eq (G : KT1 R) (σ : GS) (h : Heap) : KC k 18 c1 σ h (fun x σ h => G x (σ 2) h) = n1 k G (σ 0) (σ 2) h := (kseq (a := c14) (b := c2) rfl (fun σ h => n2_eq k G σ h)).trans (by kernel_rfl)
noncomputable def c15 : Code := cL c0
@[simp] def n0 (G : KT1 R) (v0 : GV) (h : Heap) : Option R := n1 k G v0 .nils h
theorem n0_eq (G : KT1 R) (σ : GS) (h : Heap) : KC k 18 c0 σ h (fun x σ h => G x (σ 2) h) = n0 k G (σ 0) h := (kseq (a := c15) (b := c1) rfl (fun σ h => n1_eq k G σ h)).trans (by kernel_rfl)
def run {R : Type} (k : Nat) (a0 : GV) (h : Heap) (fin : GV → Heap → Option R) : Option R := n0 k (fun x v2 h => kend x (fin v2 h)) a0 h
theorem run_eq {R : Type} (k : Nat) (a0 : GV) (h : Heap) (fin : GV → Heap → Option R) : kfun PP cfg NN HH k fn.spec_l1DrawRunes [a0] h fin = run k a0 h fin := (kfun_eq (nt := 18) (c := c0) (show PP.funcs[fn.spec_l1DrawRunes]? = some Tryd.f152 by kernel_rfl) (by kernel_rfl) (by kernel_rfl) (fun x σ h => by cases x <;> kernel_rfl)).trans (n0_eq k (fun x v2 h => kend x (fin v2 h)) _ h)
theorem gives {k : Nat} {a0 : GV} {h : Heap} {r : GV × Heap} (e : run k a0 h finH = some r) : HH fn.spec_l1DrawRunes [a0] h = some r := kω_of ((run_eq k a0 h finH).trans e)
end S.spec_l1DrawRunes
/-! spec_RuneOk -/
namespace S.spec_RuneOk
noncomputable def c0 : Code := bodyOf Tryd.f163
noncomputable def c1 : Code := cR c0
noncomputable def c2 : Code := cR c1
@[simp] def n2 {R : Type} (k : Nat) (G : KT1 R) (v2 : GV) (h : Heap) : Option R := G .ret v2 h
theorem n2_eq (G : KT1 R) (σ : GS) (h : Heap) : KC k 10 c2 σ h (fun x σ h => G x (σ 2) h) = n2 k G (σ 2) h := by kernel_rfl
noncomputable def c3 : Code := cL c1
noncomputable def o3 : Array Oper := cO c3
@[simp] def g3_2 {R : Type} (k : Nat) (G : KT1 R) (v5 v8 : GV) (h : Heap) : Option R := (kpick v5 v8 (.bool false)).bind fun v9 => G .nrm v9 h
theorem g3_2_eq (G : KT1 R) (σ : GS) (h : Heap) : kgroups PP cfg NN HH 10 o3 [(none, [6, 7])] σ h (fun σ h => G .nrm (σ 2) h) = g3_2 k G (σ 5) (σ 8) h := by kernel_rfl
@[simp] def g3_1 (G : KT1 R) (v0 v5 : GV) (h : Heap) : Option R := bif tr true v5 then (kN NN fn.spec_l1In [v0, (.int .i64 55296), (.int .i64 57343)] h).bind fun v7 => (kun .not v7).bind fun v8 => g3_2 k G v5 v8 h else g3_2 k G v5 .un h
theorem g3_1_eq (G : KT1 R) (σ : GS) (h : Heap) : kgroups PP cfg NN HH 10 o3 [(some (2, true), [3, 4, 5]), (none, [6, 7])] σ h (fun σ h => G .nrm (σ 2) h) = g3_1 k G (σ 0) (σ 5) h := (kgroups_cons (fun σ h => g3_2_eq k G σ h)).trans (by kernel_rfl)
@[simp] def g3_0 (G : KT1 R) (v0 : GV) (h : Heap) : Option R := (kN NN fn.spec_l1In [v0, (.int .i64 0), (.int .i64 1114111)] h).bind fun v4 => g3_1 k G v0 v4 h
theorem g3_0_eq (G : KT1 R) (σ : GS) (h : Heap) : kgroups PP cfg NN HH 10 o3 [(none, [0, 1, 2]), (some (2, true), [3, 4, 5]), (none, [6, 7])] σ h (fun σ h => G .nrm (σ 2) h) = g3_0 k G (σ 0) h := (kgroups_cons (fun σ h => g3_1_eq k G σ h)).trans (by kernel_rfl)
@[simp] def n3 (G : KT1 R) (v0 : GV) (h : Heap) : Option R := g3_0 k G v0 h
theorem n3_eq (G : KT1 R) (σ : GS) (h : Heap) : KC k 10 c3 σ h (fun x σ h => G x (σ 2) h) = n3 k G (σ 0) h := (kregion_eq (id := 1) (draw := false) (ops := o3) (gs := [(none, [0, 1, 2]), (some (2, true), [3, 4, 5]), (none, [6, 7])]) (by kernel_rfl) (by kernel_rfl) (by kernel_rfl)).trans (g3_0_eq k G σ h)
@[simp] def n1 (G : KT1 R) (v0 : GV) (h : Heap) : Option R := n3 k (fun x v2 h => kx x (n2 k G v2 h) (G x v2 h)) v0 h
theorem n1_eq (G : KT1 R) (σ : GS) (h : Heap) : KC k 10 c1 σ h (fun x σ h => G x (σ 2) h) = n1 k G (σ 0) h := (kseq (b := c2) rfl (fun σ h => n2_eq k G σ h)).trans (n3_eq k (fun x v2 h => kx x (n2 k G v2 h) (G x v2 h)) σ h)
noncomputable def c4 : Code := cL c0
@[simp] def n0 (G : KT1 R) (v0 : GV) (h : Heap) : Option R := n1 k G v0 h
theorem n0_eq (G : KT1 R) (σ : GS) (h : Heap) : KC k 10 c0 σ h (fun x σ h => G x (σ 2) h) = n0 k G (σ 0) h := (kseq (a := c4) (b := c1) rfl (fun σ h => n1_eq k G σ h)).trans (by kernel_rfl)
def run {R : Type} (k : Nat) (a0 : GV) (h : Heap) (fin : GV → Heap → Option R) : Option R := n0 k (fun x v2 h => kend x (fin v2 h)) a0 h
theorem run_eq {R : Type} (k : Nat) (a0 : GV) (h : Heap) (fin : GV → Heap → Option R) : kfun PP cfg NN HH k fn.spec_RuneOk [a0] h fin = run k a0 h fin := (kfun_eq (nt := 10) (c := c0) (show PP.funcs[fn.spec_RuneOk]? = some Tryd.f163 by kernel_rfl) (by kernel_rfl) (by kernel_rfl) (fun x σ h => by cases x <;> kernel_rfl)).trans (n0_eq k (fun x v2 h => kend x (fin v2 h)) _ h)
theorem gives {k : Nat} {a0 : GV} {v : GV} (e : run k a0 [] finN = some v) : NN fn.spec_RuneOk [a0] = some v := nω_of (by kernel_rfl) ((run_eq k a0 [] finN).trans e)
end S.spec_RuneOk
/-! spec_l1Put -/
namespace S.spec_l1Put
noncomputable def c0 : Code := bodyOf Tryd.f192
noncomputable def c1 : Code := cR c0
noncomputable def c2 : Code := cR c1
@[simp] def n2 {R : Type} (k : Nat) (G : KT1 R) (v0 : GV) (h : Heap) : Option R := (kbin .quo v0 (.int .i64 262144)).bind fun v39 => (kbin .add (.int .i64 240) v39).bind fun v40 => (kconvI .u8 v40).bind fun v41 => (kbin .quo v0 (.int .i64 4096)).bind fun v43 => (kbin .rem v43 (.int .i64 64)).bind fun v44 => (kbin .add (.int .i64 128) v44).bind fun v45 => (kconvI .u8 v45).bind fun v46 => (kbin .quo v0 (.int .i64 64)).bind fun v48 => (kbin .rem v48 (.int .i64 64)).bind fun v49 => (kbin .add (.int .i64 128) v49).bind fun v50 => (kconvI .u8 v50).bind fun v51 => (kbin .rem v0 (.int .i64 64)).bind fun v53 => (kbin .add (.int .i64 128) v53).bind fun v54 => (kconvI .u8 v54).bind fun v55 => (gfill (fun i => some (i * 1, 1)) (zeros [(.int .u8 0)] 4) [(0, v41), (1, v46), (2, v51), (3, v55)]).bind fun c => kbs 4 1 c h fun v56 h => G .ret v56 h
theorem n2_eq (G : KT1 R) (σ : GS) (h : Heap) : KC k 57 c2 σ h (fun x σ h => G x (σ 2) h) = n2 k G (σ 0) h := by kernel_rfl
noncomputable def c3 : Code := cL c1
noncomputable def c4 : Code := cL c3
@[simp] def n4 {R : Type} (k : Nat) (G : KT2 R) (v0 v2 : GV) (h : Heap) : Option R := (kbin .lss v0 (.int .i64 128)).bind fun v5 => kcond v5 ((kconvI .u8 v0).bind fun v7 => (gfill (fun i => some (i * 1, 1)) (zeros [(.int .u8 0)] 1) [(0, v7)]).bind fun c => kbs 1 1 c h fun v8 h => G .ret v0 v8 h) ((kbin .lss v0 (.int .i64 2048)).bind fun v11 => kcond v11 ((kbin .quo v0 (.int .i64 64)).bind fun v13 => (kbin .add (.int .i64 192) v13).bind fun v14 => (kconvI .u8 v14).bind fun v15 => (kbin .rem v0 (.int .i64 64)).bind fun v17 => (kbin .add (.int .i64 128) v17).bind fun v18 => (kconvI .u8 v18).bind fun v19 => (gfill (fun i => some (i * 1, 1)) (zeros [(.int .u8 0)] 2) [(0, v15), (1, v19)]).bind fun c => kbs 2 1 c h fun v20 h => G .ret v0 v20 h) ((kbin .lss v0 (.int .i64 65536)).bind fun v23 => kcond v23 ((kbin .quo v0 (.int .i64 4096)).bind fun v25 => (kbin .add (.int .i64 224) v25).bind fun v26 => (kconvI .u8 v26).bind fun v27 => (kbin .quo v0 (.int .i64 64)).bind fun v29 => (kbin .rem v29 (.int .i64 64)).bind fun v30 => (kbin .add (.int .i64 128) v30).bind fun v31 => (kconvI .u8 v31).bind fun v32 => (kbin .rem v0 (.int .i64 64)).bind fun v34 => (kbin .add (.int .i64 128) v34).bind fun v35 => (kconvI .u8 v35).bind fun v36 => (gfill (fun i => some (i * 1, 1)) (zeros [(.int .u8 0)] 3) [(0, v27), (1, v32), (2, v36)]).bind fun c => kbs 3 1 c h fun v37 h => G .ret v0 v37 h) (G .nrm v0 v2 h)))
theorem n4_eq (G : KT2 R) (σ : GS) (h : Heap) : KC k 57 c4 σ h (fun x σ h => G x (σ 0) (σ 2) h) = n4 k G (σ 0) (σ 2) h := by kernel_rfl
@[simp] def n3 (G : KT2 R) (v0 v2 : GV) (h : Heap) : Option R := n4 k (fun x v0 v2 h => kb 0 x fun x => G x v0 v2 h) v0 v2 h
theorem n3_eq (G : KT2 R) (σ : GS) (h : Heap) : KC k 57 c3 σ h (fun x σ h => G x (σ 0) (σ 2) h) = n3 k G (σ 0) (σ 2) h := (kblock_eq (a := c4) rfl).trans (n4_eq k (fun x v0 v2 h => kb 0 x fun x => G x v0 v2 h) σ h)
@[simp] def n1 (G : KT1 R) (v0 v2 : GV) (h : Heap) : Option R := n3 k (fun x v0 v2 h => kx x (n2 k G v0 h) (G x v2 h)) v0 v2 h
theorem n1_eq (G : KT1 R) (σ : GS) (h : Heap) : KC k 57 c1 σ h (fun x σ h => G x (σ 2) h) = n1 k G (σ 0) (σ 2) h := (kseq (b := c2) rfl (fun σ h => n2_eq k G σ h)).trans (n3_eq k (fun x v0 v2 h => kx x (n2 k G v0 h) (G x v2 h)) σ h)
noncomputable def c5 : Code := cL c0
@[simp] def n0 (G : KT1 R) (v0 : GV) (h : Heap) : Option R := n1 k G v0 .nils h
theorem n0_eq (G : KT1 R) (σ : GS) (h : Heap) : KC k 57 c0 σ h (fun x σ h => G x (σ 2) h) = n0 k G (σ 0) h := (kseq (a := c5) (b := c1) rfl (fun σ h => n1_eq k G σ h)).trans (by kernel_rfl)
def run {R : Type} (k : Nat) (a0 : GV) (h : Heap) (fin : GV → Heap → Option R) : Option R := n0 k (fun x v2 h => kend x (fin v2 h)) a0 h
theorem run_eq {R : Type} (k : Nat) (a0 : GV) (h : Heap) (fin : GV → Heap → Option R) : kfun PP cfg NN HH k fn.spec_l1Put [a0] h fin = run k a0 h fin := (kfun_eq (nt := 57) (c := c0) (show PP.funcs[fn.spec_l1Put]? = some Tryd.f192 by kernel_rfl) (by kernel_rfl) (by kernel_rfl) (fun x σ h => by cases x <;> kernel_rfl)).trans (n0_eq k (fun x v2 h => kend x (fin v2 h)) _ h)
theorem gives {k : Nat} {a0 : GV} {v : GV} (e : run k a0 [] finN = some v) : NN fn.spec_l1Put [a0] = some v := nω_of (by kernel_rfl) ((run_eq k a0 [] finN).trans e)
end S.spec_l1Put
/-! spec_l1DrawRune -/
namespace S.spec_l1DrawRune
noncomputable def c0 : Code := bodyOf Tryd.f193
@[simp] def n0 {R : Type} (k : Nat) (G : KT1 R) (v0 : GV) (h : Heap) : Option R := (gfill (fun i => some (i * 1, 1)) (zeros [(.int .i64 0)] 12) [(0, (.int .i64 65)), (1, (.int .i64 97)), (2, (.int .i64 98)), (3, (.int .i64 32)), (4, (.int .i64 233)), (5, (.int .i64 19968)), (6, (.int .i64 128512)), (7, (.int .i64 769)), (8, (.int .i64 10)), (9, (.int .i64 27)), (10, (.int .i64 127)), (11, (.int .i64 65533))]).bind fun c => kbs 12 1 c h fun v3 h => (HH fn.spec_l1Below [v0, (.int .i64 12)] h).bind fun r => kr r fun v5 h => (kia 1 v3 v5).bind fun v6 => (kload1 h v6).bind fun v7 => G .ret v7 h
theorem n0_eq (G : KT1 R) (σ : GS) (h : Heap) : KC k 8 c0 σ h (fun x σ h => G x (σ 2) h) = n0 k G (σ 0) h := by kernel_rfl
def run {R : Type} (k : Nat) (a0 : GV) (h : Heap) (fin : GV → Heap → Option R) : Option R := n0 k (fun x v2 h => kend x (fin v2 h)) a0 h
theorem run_eq {R : Type} (k : Nat) (a0 : GV) (h : Heap) (fin : GV → Heap → Option R) : kfun PP cfg NN HH k fn.spec_l1DrawRune [a0] h fin = run k a0 h fin := (kfun_eq (nt := 8) (c := c0) (show PP.funcs[fn.spec_l1DrawRune]? = some Tryd.f193 by kernel_rfl) (by kernel_rfl) (by kernel_rfl) (fun x σ h => by cases x <;> kernel_rfl)).trans (n0_eq k (fun x v2 h => kend x (fin v2 h)) _ h)
theorem gives {k : Nat} {a0 : GV} {h : Heap} {r : GV × Heap} (e : run k a0 h finH = some r) : HH fn.spec_l1DrawRune [a0] h = some r := kω_of ((run_eq k a0 h finH).trans e)
end S.spec_l1DrawRune
end
end Go.Proofs.YtklhdbkaejbajaaDoor.G
