/- What these functions do, told for open values, out of the machine with continuations. Printed by a program of this session. -/
import Derived.Test.YtlbnioapepelnaaZc0509f28
import Derived.KernelRfl
namespace Go.Proofs.Ytlbnioapepelnaa.G
open Go.RowKit
set_option linter.unusedVariables false
set_option maxRecDepth 100000
noncomputable section
variable {R : Type} (k : Nat)
/-! impl_Up -/
namespace S.impl_Up
noncomputable def c0 : Code := bodyOf Try.f86
@[simp] def n0 {R : Type} (k : Nat) (G : KT1 R) (v0 v1 v2 v3 v4 : GV) (h : Heap) : Option R := kbox v0 h fun v5 h => kbox v4 h fun v9 h => kalloc [(.int .i64 0), .nils] h fun v10 h => (kloadA 2 h v5).bind fun v12 => (kloadA 5 h v9).bind fun v16 => (kN NN fn.impl_isScroll [v12, v1, v2, v3, v16] h).bind fun v17 => (kun .not v17).bind fun v18 => kcond v18 ((gfill (fun i => [(0, 1), (1, 1)][i]?) [(.int .i64 0), .nils] []).bind fun c => kagg c h fun v19 h => (kstore 2 h v10 v19).bind fun h => G .ret v10 h) ((kloadA 2 h v5).bind fun v20 => (kF false HH fn.impl_Grid_copied [v20] h).bind fun r => kr r fun v21 h => kalloc [(.int .i64 0), .nils] h fun v11 h => (kstore 2 h v11 v21).bind fun h => (kloadA 5 h v9).bind fun v25 => (HH fn.impl_Grid_up [v11, v1, v2, v3, v25] h).bind fun r => kr r fun v26 h => (kloadA 2 h v11).bind fun v27 => (kstore 2 h v10 v27).bind fun h => G .ret v10 h)
theorem n0_eq (G : KT1 R) (σ : GS) (h : Heap) : KC k 28 c0 σ h (fun x σ h => G x (σ 10) h) = n0 k G (σ 0) (σ 1) (σ 2) (σ 3) (σ 4) h := by kernel_rfl
def run {R : Type} (k : Nat) (a0 : GV) (a1 : GV) (a2 : GV) (a3 : GV) (a4 : GV) (h : Heap) (fin : GV → Heap → Option R) : Option R := n0 k (fun x v10 h => kend x ((kloadA 2 h v10).bind fun w10 => fin w10 h)) a0 a1 a2 a3 a4 h
theorem run_eq {R : Type} (k : Nat) (a0 : GV) (a1 : GV) (a2 : GV) (a3 : GV) (a4 : GV) (h : Heap) (fin : GV → Heap → Option R) : kfun PP cfg NN HH k fn.impl_Up [a0, a1, a2, a3, a4] h fin = run k a0 a1 a2 a3 a4 h fin := (kfun_eq (nt := 28) (c := c0) (show PP.funcs[fn.impl_Up]? = some Try.f86 by kernel_rfl) (by kernel_rfl) (by kernel_rfl) (fun x σ h => by cases x <;> kernel_rfl)).trans (n0_eq k (fun x v10 h => kend x ((kloadA 2 h v10).bind fun w10 => fin w10 h)) _ h)
theorem gives {k : Nat} {a0 : GV} {a1 : GV} {a2 : GV} {a3 : GV} {a4 : GV} {b : Nat} {q : GV × List (List GV)} (e : run k a0 a1 a2 a3 a4 [] (finO b) = some q) : OO fn.impl_Up [a0, a1, a2, a3, a4] b = some q := oω_of ((run_eq k a0 a1 a2 a3 a4 [] (finO b)).trans e)
end S.impl_Up
/-! impl_Down -/
namespace S.impl_Down
noncomputable def c0 : Code := bodyOf Try.f81
@[simp] def n0 {R : Type} (k : Nat) (G : KT1 R) (v0 v1 v2 v3 v4 : GV) (h : Heap) : Option R := kbox v0 h fun v5 h => kbox v4 h fun v9 h => kalloc [(.int .i64 0), .nils] h fun v10 h => (kloadA 2 h v5).bind fun v12 => (kloadA 5 h v9).bind fun v16 => (kN NN fn.impl_isScroll [v12, v1, v2, v3, v16] h).bind fun v17 => (kun .not v17).bind fun v18 => kcond v18 ((gfill (fun i => [(0, 1), (1, 1)][i]?) [(.int .i64 0), .nils] []).bind fun c => kagg c h fun v19 h => (kstore 2 h v10 v19).bind fun h => G .ret v10 h) ((kloadA 2 h v5).bind fun v20 => (kF false HH fn.impl_Grid_copied [v20] h).bind fun r => kr r fun v21 h => kalloc [(.int .i64 0), .nils] h fun v11 h => (kstore 2 h v11 v21).bind fun h => (kloadA 5 h v9).bind fun v25 => (HH fn.impl_Grid_down [v11, v1, v2, v3, v25] h).bind fun r => kr r fun v26 h => (kloadA 2 h v11).bind fun v27 => (kstore 2 h v10 v27).bind fun h => G .ret v10 h)
theorem n0_eq (G : KT1 R) (σ : GS) (h : Heap) : KC k 28 c0 σ h (fun x σ h => G x (σ 10) h) = n0 k G (σ 0) (σ 1) (σ 2) (σ 3) (σ 4) h := by kernel_rfl
def run {R : Type} (k : Nat) (a0 : GV) (a1 : GV) (a2 : GV) (a3 : GV) (a4 : GV) (h : Heap) (fin : GV → Heap → Option R) : Option R := n0 k (fun x v10 h => kend x ((kloadA 2 h v10).bind fun w10 => fin w10 h)) a0 a1 a2 a3 a4 h
theorem run_eq {R : Type} (k : Nat) (a0 : GV) (a1 : GV) (a2 : GV) (a3 : GV) (a4 : GV) (h : Heap) (fin : GV → Heap → Option R) : kfun PP cfg NN HH k fn.impl_Down [a0, a1, a2, a3, a4] h fin = run k a0 a1 a2 a3 a4 h fin := (kfun_eq (nt := 28) (c := c0) (show PP.funcs[fn.impl_Down]? = some Try.f81 by kernel_rfl) (by kernel_rfl) (by kernel_rfl) (fun x σ h => by cases x <;> kernel_rfl)).trans (n0_eq k (fun x v10 h => kend x ((kloadA 2 h v10).bind fun w10 => fin w10 h)) _ h)
theorem gives {k : Nat} {a0 : GV} {a1 : GV} {a2 : GV} {a3 : GV} {a4 : GV} {b : Nat} {q : GV × List (List GV)} (e : run k a0 a1 a2 a3 a4 [] (finO b) = some q) : OO fn.impl_Down [a0, a1, a2, a3, a4] b = some q := oω_of ((run_eq k a0 a1 a2 a3 a4 [] (finO b)).trans e)
end S.impl_Down
/-! impl_Grid_up -/
namespace S.impl_Grid_up
noncomputable def c0 : Code := bodyOf Try.f181
@[simp] def n0 {R : Type} (k : Nat) (G : KT0 R) (v0 v1 v2 v3 v4 : GV) (h : Heap) : Option R := kbox v4 h fun v9 h => (kbin .sub v2 v1).bind fun v14 => (kbin .add v14 (.int .i64 1)).bind fun v15 => (gmin v3 v15).bind fun v16 => (knil v0).bind fun v18 => (kfa 1 v18).bind fun v19 => (kload1 h v19).bind fun v20 => (kbin .add v1 v16).bind fun v23 => (kbin .add v2 (.int .i64 1)).bind fun v25 => (ksl 1 v20 (some v23) (some v25) none).bind fun v26 => (knil v0).bind fun v28 => (kloadA 2 h v28).bind fun v29 => (kloadA 5 h v9).bind fun v31 => (kF false HH fn.impl_Grid_blanks [v29, v16, v31] h).bind fun r => kr r fun v32 h => (gfill (fun i => some (i * 1, 1)) (zeros [.nils] 2) [(0, v26), (1, v32)]).bind fun c => kbs 2 1 c h fun v33 h => (HH fn.slices_Concat_impl_Cell_impl_Cell [v33] h).bind fun r => kr r fun v34 h => (knil v0).bind fun v36 => (kfa 1 v36).bind fun v37 => (kload1 h v37).bind fun v38 => (ksl 1 v38 (some v1) none none).bind fun v40 => (kcopy 1 v40 v34 h).bind fun r => kr r fun v42 h => G .nrm h
theorem n0_eq (G : KT0 R) (σ : GS) (h : Heap) : KC k 43 c0 σ h (fun x σ h => G x h) = n0 k G (σ 0) (σ 1) (σ 2) (σ 3) (σ 4) h := by kernel_rfl
def run {R : Type} (k : Nat) (a0 : GV) (a1 : GV) (a2 : GV) (a3 : GV) (a4 : GV) (h : Heap) (fin : GV → Heap → Option R) : Option R := n0 k (fun x h => kend x (fin (.tup []) h)) a0 a1 a2 a3 a4 h
theorem run_eq {R : Type} (k : Nat) (a0 : GV) (a1 : GV) (a2 : GV) (a3 : GV) (a4 : GV) (h : Heap) (fin : GV → Heap → Option R) : kfun PP cfg NN HH k fn.impl_Grid_up [a0, a1, a2, a3, a4] h fin = run k a0 a1 a2 a3 a4 h fin := (kfun_eq (nt := 43) (c := c0) (show PP.funcs[fn.impl_Grid_up]? = some Try.f181 by kernel_rfl) (by kernel_rfl) (by kernel_rfl) (fun x σ h => by cases x <;> kernel_rfl)).trans (n0_eq k (fun x h => kend x (fin (.tup []) h)) _ h)
theorem gives {k : Nat} {a0 : GV} {a1 : GV} {a2 : GV} {a3 : GV} {a4 : GV} {h : Heap} {r : GV × Heap} (e : run k a0 a1 a2 a3 a4 h finH = some r) : HH fn.impl_Grid_up [a0, a1, a2, a3, a4] h = some r := kω_of ((run_eq k a0 a1 a2 a3 a4 h finH).trans e)
end S.impl_Grid_up
/-! impl_Grid_down -/
namespace S.impl_Grid_down
noncomputable def c0 : Code := bodyOf Try.f177
noncomputable def c1 : Code := cR c0
noncomputable def c2 : Code := cR c1
noncomputable def c3 : Code := cR c2
@[simp] def n3 {R : Type} (k : Nat) (G : KT0 R) (v0 v1 v10 : GV) (h : Heap) : Option R := (knil v0).bind fun v36 => (kfa 1 v36).bind fun v37 => (kload1 h v37).bind fun v38 => (ksl 1 v38 (some v1) none none).bind fun v40 => (kcopy 1 v40 v10 h).bind fun r => kr r fun v42 h => G .nrm h
theorem n3_eq (G : KT0 R) (σ : GS) (h : Heap) : KC k 43 c3 σ h (fun x σ h => G x h) = n3 k G (σ 0) (σ 1) (σ 10) h := by kernel_rfl
noncomputable def c4 : Code := cL c2
noncomputable def o4 : Array Oper := cO c4
@[simp] def g4_0 {R : Type} (k : Nat) (G : KT3 R) (v0 v1 v2 v3 v9 : GV) (rs : List Rec) (h : Heap) : Option R := (knil v0).bind fun v18 => (kloadA 2 h v18).bind fun v19 => (kloadA 5 h v9).bind fun v21 => kold h fun h0 => (kF false HH fn.impl_Grid_blanks [v19, v3, v21] h).bind fun r => kr r fun v22 h => krs (rs ++ [⟨5, h0.length, h.length, ⟨[v19, v3, v21].flatMap (kborr h0), []⟩⟩]) fun rs => (knil v0).bind fun v24 => (kfa 1 v24).bind fun v25 => kold h fun h0 => (kload1 h v25).bind fun v26 => krs (rs ++ [⟨9, h0.length, h.length, ⟨kblk v25, []⟩⟩]) fun rs => (kbin .add v2 (.int .i64 1)).bind fun v29 => (kbin .sub v29 v3).bind fun v31 => (ksl 1 v26 (some v1) (some v31) none).bind fun v32 => (gfill (fun i => some (i * 1, 1)) (zeros [.nils] 2) [(0, v22), (1, v32)]).bind fun c => kbs 2 1 c h fun v33 h => (HH fn.slices_Concat_impl_Cell_impl_Cell [v33] h).bind fun r => kr r fun v34 h => bif chk [(5, 9)] rs then G .nrm v0 v1 v34 h else none
theorem g4_0_eq (G : KT3 R) (rs : List Rec) (σ : GS) (h : Heap) : kgroupsD PP cfg NN HH 43 o4 [(5, 9)] [(none, [0, 1, 2, 3, 4, 5, 6, 7, 8, 9, 10, 11, 12, 13, 14, 15, 16, 17, 18])] rs σ h (fun rs σ h => bif chk [(5, 9)] rs then G .nrm (σ 0) (σ 1) (σ 10) h else none) = g4_0 k G (σ 0) (σ 1) (σ 2) (σ 3) (σ 9) rs h := by kernel_rfl
@[simp] def n4 (G : KT3 R) (v0 v1 v2 v3 v9 : GV) (h : Heap) : Option R := g4_0 k G v0 v1 v2 v3 v9 [] h
theorem n4_eq (G : KT3 R) (σ : GS) (h : Heap) : KC k 43 c4 σ h (fun x σ h => G x (σ 0) (σ 1) (σ 10) h) = n4 k G (σ 0) (σ 1) (σ 2) (σ 3) (σ 9) h := (kregionD_eq (id := 2) (draw := true) (ops := o4) (gs := [(none, [0, 1, 2, 3, 4, 5, 6, 7, 8, 9, 10, 11, 12, 13, 14, 15, 16, 17, 18])]) (bad := [(5, 9)]) (by kernel_rfl) (by kernel_rfl) (by kernel_rfl) (by kernel_rfl) (by kernel_rfl)).trans (g4_0_eq k G [] σ h)
@[simp] def n2 (G : KT0 R) (v0 v1 v2 v3 v9 : GV) (h : Heap) : Option R := n4 k (fun x v0 v1 v10 h => kx x (n3 k G v0 v1 v10 h) (G x h)) v0 v1 v2 v3 v9 h
theorem n2_eq (G : KT0 R) (σ : GS) (h : Heap) : KC k 43 c2 σ h (fun x σ h => G x h) = n2 k G (σ 0) (σ 1) (σ 2) (σ 3) (σ 9) h := (kseq (b := c3) rfl (fun σ h => n3_eq k G σ h)).trans (n4_eq k (fun x v0 v1 v10 h => kx x (n3 k G v0 v1 v10 h) (G x h)) σ h)
noncomputable def c5 : Code := cL c1
@[simp] def n1 (G : KT0 R) (v0 v1 v2 v3 v9 : GV) (h : Heap) : Option R := (kbin .sub v2 v1).bind fun v14 => (kbin .add v14 (.int .i64 1)).bind fun v15 => (gmin v3 v15).bind fun v16 => n2 k G v0 v1 v2 v16 v9 h
theorem n1_eq (G : KT0 R) (σ : GS) (h : Heap) : KC k 43 c1 σ h (fun x σ h => G x h) = n1 k G (σ 0) (σ 1) (σ 2) (σ 3) (σ 9) h := (kseq (a := c5) (b := c2) rfl (fun σ h => n2_eq k G σ h)).trans (by kernel_rfl)
noncomputable def c6 : Code := cL c0
@[simp] def n0 (G : KT0 R) (v0 v1 v2 v3 v4 : GV) (h : Heap) : Option R := kbox v4 h fun v9 h => n1 k G v0 v1 v2 v3 v9 h
theorem n0_eq (G : KT0 R) (σ : GS) (h : Heap) : KC k 43 c0 σ h (fun x σ h => G x h) = n0 k G (σ 0) (σ 1) (σ 2) (σ 3) (σ 4) h := (kseq (a := c6) (b := c1) rfl (fun σ h => n1_eq k G σ h)).trans (by kernel_rfl)
def run {R : Type} (k : Nat) (a0 : GV) (a1 : GV) (a2 : GV) (a3 : GV) (a4 : GV) (h : Heap) (fin : GV → Heap → Option R) : Option R := n0 k (fun x h => kend x (fin (.tup []) h)) a0 a1 a2 a3 a4 h
theorem run_eq {R : Type} (k : Nat) (a0 : GV) (a1 : GV) (a2 : GV) (a3 : GV) (a4 : GV) (h : Heap) (fin : GV → Heap → Option R) : kfun PP cfg NN HH k fn.impl_Grid_down [a0, a1, a2, a3, a4] h fin = run k a0 a1 a2 a3 a4 h fin := (kfun_eq (nt := 43) (c := c0) (show PP.funcs[fn.impl_Grid_down]? = some Try.f177 by kernel_rfl) (by kernel_rfl) (by kernel_rfl) (fun x σ h => by cases x <;> kernel_rfl)).trans (n0_eq k (fun x h => kend x (fin (.tup []) h)) _ h)
theorem gives {k : Nat} {a0 : GV} {a1 : GV} {a2 : GV} {a3 : GV} {a4 : GV} {h : Heap} {r : GV × Heap} (e : run k a0 a1 a2 a3 a4 h finH = some r) : HH fn.impl_Grid_down [a0, a1, a2, a3, a4] h = some r := kω_of ((run_eq k a0 a1 a2 a3 a4 h finH).trans e)
end S.impl_Grid_down
/-! impl_Grid_blanks -/
namespace S.impl_Grid_blanks
noncomputable def c0 : Code := bodyOf Try.f237
noncomputable def c1 : Code := cR c0
noncomputable def c2 : Code := cR c1
noncomputable def c3 : Code := cR c2
@[simp] def n3 {R : Type} (k : Nat) (G : KT1 R) (v7 : GV) (h : Heap) : Option R := G .ret v7 h
theorem n3_eq (G : KT1 R) (σ : GS) (h : Heap) : KC k 21 c3 σ h (fun x σ h => G x (σ 6) h) = n3 k G (σ 7) h := by kernel_rfl
noncomputable def c4 : Code := cL c2
noncomputable def c5 : Code := cR c4
noncomputable def c6 : Code := cL c5
noncomputable def c7 : Code := cL c6
noncomputable def c8 : Code := cR c7
noncomputable def c9 : Code := cR c8
noncomputable def c10 : Code := cR c9
@[simp] def n10 {R : Type} (k : Nat) (G : KT6 R) (v3 v5 v6 v7 v9 v10 : GV) (h : Heap) : Option R := (kbin .add v10 (.int .i64 1)).bind fun v19 => G .nrm v3 v5 v6 v7 v9 v19 h
theorem n10_eq (G : KT6 R) (σ : GS) (h : Heap) : KC k 21 c10 σ h (fun x σ h => G x (σ 3) (σ 5) (σ 6) (σ 7) (σ 9) (σ 10) h) = n10 k G (σ 3) (σ 5) (σ 6) (σ 7) (σ 9) (σ 10) h := by kernel_rfl
noncomputable def c11 : Code := cL c9
noncomputable def c12 : Code := cL c11
@[simp] def n12 {R : Type} (k : Nat) (G : KT6 R) (v3 v5 v6 v7 v9 v10 : GV) (h : Heap) : Option R := (kfa 0 v3).bind fun v13 => (kload1 h v13).bind fun v14 => (kloadA 5 h v5).bind fun v15 => (kF false HH fn.impl_Blank [v14, v15] h).bind fun r => kr r fun v16 h => (gfill (fun i => some (i * 1, 1)) (zeros [.nils] 1) [(0, v16)]).bind fun c => kbs 1 1 c h fun v17 h => (kapp [.nils] 1 24 v7 v17 h).bind fun r => kr r fun v18 h => G .nrm v3 v5 v6 v18 v9 v10 h
theorem n12_eq (G : KT6 R) (σ : GS) (h : Heap) : KC k 21 c12 σ h (fun x σ h => G x (σ 3) (σ 5) (σ 6) (σ 7) (σ 9) (σ 10) h) = n12 k G (σ 3) (σ 5) (σ 6) (σ 7) (σ 9) (σ 10) h := by kernel_rfl
@[simp] def n11 (G : KT6 R) (v3 v5 v6 v7 v9 v10 : GV) (h : Heap) : Option R := n12 k (fun x v3 v5 v6 v7 v9 v10 h => kb 1 x fun x => G x v3 v5 v6 v7 v9 v10 h) v3 v5 v6 v7 v9 v10 h
theorem n11_eq (G : KT6 R) (σ : GS) (h : Heap) : KC k 21 c11 σ h (fun x σ h => G x (σ 3) (σ 5) (σ 6) (σ 7) (σ 9) (σ 10) h) = n11 k G (σ 3) (σ 5) (σ 6) (σ 7) (σ 9) (σ 10) h := (kblock_eq (a := c12) rfl).trans (n12_eq k (fun x v3 v5 v6 v7 v9 v10 h => kb 1 x fun x => G x v3 v5 v6 v7 v9 v10 h) σ h)
@[simp] def n9 (G : KT6 R) (v3 v5 v6 v7 v9 v10 : GV) (h : Heap) : Option R := n11 k (fun x v3 v5 v6 v7 v9 v10 h => kx x (n10 k G v3 v5 v6 v7 v9 v10 h) (G x v3 v5 v6 v7 v9 v10 h)) v3 v5 v6 v7 v9 v10 h
theorem n9_eq (G : KT6 R) (σ : GS) (h : Heap) : KC k 21 c9 σ h (fun x σ h => G x (σ 3) (σ 5) (σ 6) (σ 7) (σ 9) (σ 10) h) = n9 k G (σ 3) (σ 5) (σ 6) (σ 7) (σ 9) (σ 10) h := (kseq (b := c10) rfl (fun σ h => n10_eq k G σ h)).trans (n11_eq k (fun x v3 v5 v6 v7 v9 v10 h => kx x (n10 k G v3 v5 v6 v7 v9 v10 h) (G x v3 v5 v6 v7 v9 v10 h)) σ h)
noncomputable def c13 : Code := cL c8
@[simp] def n8 (G : KT6 R) (v3 v5 v6 v7 v9 v10 v11 : GV) (h : Heap) : Option R := kcond v11 (n9 k G v3 v5 v6 v7 v9 v10 h) (G (.ext 0) v3 v5 v6 v7 v9 v10 h)
theorem n8_eq (G : KT6 R) (σ : GS) (h : Heap) : KC k 21 c8 σ h (fun x σ h => G x (σ 3) (σ 5) (σ 6) (σ 7) (σ 9) (σ 10) h) = n8 k G (σ 3) (σ 5) (σ 6) (σ 7) (σ 9) (σ 10) (σ 11) h := (kseq (a := c13) (b := c9) rfl (fun σ h => n9_eq k G σ h)).trans (by kernel_rfl)
noncomputable def c14 : Code := cL c7
@[simp] def n7 (G : KT6 R) (v3 v5 v6 v7 v9 v10 : GV) (h : Heap) : Option R := (kbin .lss v10 v9).bind fun v11 => n8 k G v3 v5 v6 v7 v9 v10 v11 h
theorem n7_eq (G : KT6 R) (σ : GS) (h : Heap) : KC k 21 c7 σ h (fun x σ h => G x (σ 3) (σ 5) (σ 6) (σ 7) (σ 9) (σ 10) h) = n7 k G (σ 3) (σ 5) (σ 6) (σ 7) (σ 9) (σ 10) h := (kseq (a := c14) (b := c8) rfl (fun σ h => n8_eq k G σ h)).trans (by kernel_rfl)
def l6 {R : Type} (k : Nat) (G : KT2 R) : Nat → GV → GV → GV → GV → GV → GV → Heap → Option R
  | 0, _, _, _, _, _, _, _ => none
  | r + 1, v3, v5, v6, v7, v9, v10, h => n7 k (fun x v3 v5 v6 v7 v9 v10 h => kx x (l6 k G r v3 v5 v6 v7 v9 v10 h) (G x v6 v7 h)) v3 v5 v6 v7 v9 v10 h
theorem l6_eq {R : Type} (k : Nat) (G : KT2 R) : ∀ (r : Nat) (σ : GS) (h : Heap), kloop (fun σ h K => KC k 21 c7 σ h K) r σ h (fun x σ h => G x (σ 6) (σ 7) h) = l6 k G r (σ 3) (σ 5) (σ 6) (σ 7) (σ 9) (σ 10) h
  | 0, _, _ => rfl
  | r + 1, σ, h => (kloop_eq (fun σ h => l6_eq k G r σ h)).trans (n7_eq k (fun x v3 v5 v6 v7 v9 v10 h => kx x (l6 k G r v3 v5 v6 v7 v9 v10 h) (G x v6 v7 h)) σ h)
@[simp] def n6 (G : KT2 R) (v3 v5 v6 v7 v9 v10 : GV) (h : Heap) : Option R := l6 k G k v3 v5 v6 v7 v9 v10 h
theorem n6_eq (G : KT2 R) (σ : GS) (h : Heap) : KC k 21 c6 σ h (fun x σ h => G x (σ 6) (σ 7) h) = n6 k G (σ 3) (σ 5) (σ 6) (σ 7) (σ 9) (σ 10) h := (kloopc_eq (a := c7) rfl).trans (l6_eq k G k σ h)
@[simp] def n5 (G : KT2 R) (v3 v5 v6 v7 v9 v10 : GV) (h : Heap) : Option R := n6 k (fun x v6 v7 h => kb 0 x fun x => G x v6 v7 h) v3 v5 v6 v7 v9 v10 h
theorem n5_eq (G : KT2 R) (σ : GS) (h : Heap) : KC k 21 c5 σ h (fun x σ h => G x (σ 6) (σ 7) h) = n5 k G (σ 3) (σ 5) (σ 6) (σ 7) (σ 9) (σ 10) h := (kblock_eq (a := c6) rfl).trans (n6_eq k (fun x v6 v7 h => kb 0 x fun x => G x v6 v7 h) σ h)
noncomputable def c15 : Code := cL c4
@[simp] def n4 (G : KT2 R) (v1 v3 v5 v6 v7 : GV) (h : Heap) : Option R := n5 k G v3 v5 v6 v7 v1 (.int .i64 0) h
theorem n4_eq (G : KT2 R) (σ : GS) (h : Heap) : KC k 21 c4 σ h (fun x σ h => G x (σ 6) (σ 7) h) = n4 k G (σ 1) (σ 3) (σ 5) (σ 6) (σ 7) h := (kseq (a := c15) (b := c5) rfl (fun σ h => n5_eq k G σ h)).trans (by kernel_rfl)
@[simp] def n2 (G : KT1 R) (v1 v3 v5 v6 v7 : GV) (h : Heap) : Option R := n4 k (fun x v6 v7 h => kx x (n3 k G v7 h) (G x v6 h)) v1 v3 v5 v6 v7 h
theorem n2_eq (G : KT1 R) (σ : GS) (h : Heap) : KC k 21 c2 σ h (fun x σ h => G x (σ 6) h) = n2 k G (σ 1) (σ 3) (σ 5) (σ 6) (σ 7) h := (kseq (b := c3) rfl (fun σ h => n3_eq k G σ h)).trans (n4_eq k (fun x v6 v7 h => kx x (n3 k G v7 h) (G x v6 h)) σ h)
noncomputable def c16 : Code := cL c1
@[simp] def n1 (G : KT1 R) (v1 v3 v5 v6 : GV) (h : Heap) : Option R := n2 k G v1 v3 v5 v6 .emp h
theorem n1_eq (G : KT1 R) (σ : GS) (h : Heap) : KC k 21 c1 σ h (fun x σ h => G x (σ 6) h) = n1 k G (σ 1) (σ 3) (σ 5) (σ 6) h := (kseq (a := c16) (b := c2) rfl (fun σ h => n2_eq k G σ h)).trans (by kernel_rfl)
noncomputable def c17 : Code := cL c0
@[simp] def n0 (G : KT1 R) (v0 v1 v2 : GV) (h : Heap) : Option R := kbox v0 h fun v3 h => kbox v2 h fun v5 h => n1 k G v1 v3 v5 .nils h
theorem n0_eq (G : KT1 R) (σ : GS) (h : Heap) : KC k 21 c0 σ h (fun x σ h => G x (σ 6) h) = n0 k G (σ 0) (σ 1) (σ 2) h := (kseq (a := c17) (b := c1) rfl (fun σ h => n1_eq k G σ h)).trans (by kernel_rfl)
def run {R : Type} (k : Nat) (a0 : GV) (a1 : GV) (a2 : GV) (h : Heap) (fin : GV → Heap → Option R) : Option R := n0 k (fun x v6 h => kend x (fin v6 h)) a0 a1 a2 h
theorem run_eq {R : Type} (k : Nat) (a0 : GV) (a1 : GV) (a2 : GV) (h : Heap) (fin : GV → Heap → Option R) : kfun PP cfg NN HH k fn.impl_Grid_blanks [a0, a1, a2] h fin = run k a0 a1 a2 h fin := (kfun_eq (nt := 21) (c := c0) (show PP.funcs[fn.impl_Grid_blanks]? = some Try.f237 by kernel_rfl) (by kernel_rfl) (by kernel_rfl) (fun x σ h => by cases x <;> kernel_rfl)).trans (n0_eq k (fun x v6 h => kend x (fin v6 h)) _ h)
theorem gives {k : Nat} {a0 : GV} {a1 : GV} {a2 : GV} {b : Nat} {q : GV × List (List GV)} (e : run k a0 a1 a2 [] (finO b) = some q) : OO fn.impl_Grid_blanks [a0, a1, a2] b = some q := oω_of ((run_eq k a0 a1 a2 [] (finO b)).trans e)
end S.impl_Grid_blanks
/-! impl_Grid_copied -/
namespace S.impl_Grid_copied
noncomputable def c0 : Code := bodyOf Try.f176
noncomputable def c1 : Code := cR c0
noncomputable def c2 : Code := cR c1
noncomputable def c3 : Code := cR c2
@[simp] def n3 {R : Type} (k : Nat) (G : KT1 R) (v2 v3 : GV) (h : Heap) : Option R := (kloadA 2 h v3).bind fun v24 => (kstore 2 h v2 v24).bind fun h => G .ret v2 h
theorem n3_eq (G : KT1 R) (σ : GS) (h : Heap) : KC k 25 c3 σ h (fun x σ h => G x (σ 2) h) = n3 k G (σ 2) (σ 3) h := by kernel_rfl
noncomputable def c4 : Code := cL c2
noncomputable def c5 : Code := cR c4
noncomputable def c6 : Code := cL c5
noncomputable def c7 : Code := cL c6
noncomputable def c8 : Code := cR c7
noncomputable def c9 : Code := cR c8
noncomputable def c10 : Code := cR c9
@[simp] def n10 {R : Type} (k : Nat) (G : KT5 R) (v2 v3 v10 v11 v12 : GV) (h : Heap) : Option R := (kbin .add v12 (.int .i64 1)).bind fun v23 => G .nrm v2 v3 v10 v11 v23 h
theorem n10_eq (G : KT5 R) (σ : GS) (h : Heap) : KC k 25 c10 σ h (fun x σ h => G x (σ 2) (σ 3) (σ 10) (σ 11) (σ 12) h) = n10 k G (σ 2) (σ 3) (σ 10) (σ 11) (σ 12) h := by kernel_rfl
noncomputable def c11 : Code := cL c9
noncomputable def c12 : Code := cL c11
@[simp] def n12 {R : Type} (k : Nat) (G : KT5 R) (v2 v3 v10 v11 v12 : GV) (h : Heap) : Option R := (kia 1 v10 v12).bind fun v14 => (kload1 h v14).bind fun v15 => (kfa 1 v3).bind fun v16 => (kload1 h v16).bind fun v17 => (kF true HH fn.slices_Clone_impl_Cell [v15] h).bind fun r => kr r fun v19 h => (gfill (fun i => some (i * 1, 1)) (zeros [.nils] 1) [(0, v19)]).bind fun c => kbs 1 1 c h fun v20 h => (kapp [.nils] 1 24 v17 v20 h).bind fun r => kr r fun v21 h => (kfa 1 v3).bind fun v22 => (kstore 1 h v22 v21).bind fun h => G .nrm v2 v3 v10 v11 v12 h
theorem n12_eq (G : KT5 R) (σ : GS) (h : Heap) : KC k 25 c12 σ h (fun x σ h => G x (σ 2) (σ 3) (σ 10) (σ 11) (σ 12) h) = n12 k G (σ 2) (σ 3) (σ 10) (σ 11) (σ 12) h := by kernel_rfl
@[simp] def n11 (G : KT5 R) (v2 v3 v10 v11 v12 : GV) (h : Heap) : Option R := n12 k (fun x v2 v3 v10 v11 v12 h => kb 1 x fun x => G x v2 v3 v10 v11 v12 h) v2 v3 v10 v11 v12 h
theorem n11_eq (G : KT5 R) (σ : GS) (h : Heap) : KC k 25 c11 σ h (fun x σ h => G x (σ 2) (σ 3) (σ 10) (σ 11) (σ 12) h) = n11 k G (σ 2) (σ 3) (σ 10) (σ 11) (σ 12) h := (kblock_eq (a := c12) rfl).trans (n12_eq k (fun x v2 v3 v10 v11 v12 h => kb 1 x fun x => G x v2 v3 v10 v11 v12 h) σ h)
@[simp] def n9 (G : KT5 R) (v2 v3 v10 v11 v12 : GV) (h : Heap) : Option R := n11 k (fun x v2 v3 v10 v11 v12 h => kx x (n10 k G v2 v3 v10 v11 v12 h) (G x v2 v3 v10 v11 v12 h)) v2 v3 v10 v11 v12 h
theorem n9_eq (G : KT5 R) (σ : GS) (h : Heap) : KC k 25 c9 σ h (fun x σ h => G x (σ 2) (σ 3) (σ 10) (σ 11) (σ 12) h) = n9 k G (σ 2) (σ 3) (σ 10) (σ 11) (σ 12) h := (kseq (b := c10) rfl (fun σ h => n10_eq k G σ h)).trans (n11_eq k (fun x v2 v3 v10 v11 v12 h => kx x (n10 k G v2 v3 v10 v11 v12 h) (G x v2 v3 v10 v11 v12 h)) σ h)
noncomputable def c13 : Code := cL c8
@[simp] def n8 (G : KT5 R) (v2 v3 v10 v11 v12 v13 : GV) (h : Heap) : Option R := kcond v13 (n9 k G v2 v3 v10 v11 v12 h) (G (.ext 0) v2 v3 v10 v11 v12 h)
theorem n8_eq (G : KT5 R) (σ : GS) (h : Heap) : KC k 25 c8 σ h (fun x σ h => G x (σ 2) (σ 3) (σ 10) (σ 11) (σ 12) h) = n8 k G (σ 2) (σ 3) (σ 10) (σ 11) (σ 12) (σ 13) h := (kseq (a := c13) (b := c9) rfl (fun σ h => n9_eq k G σ h)).trans (by kernel_rfl)
noncomputable def c14 : Code := cL c7
@[simp] def n7 (G : KT5 R) (v2 v3 v10 v11 v12 : GV) (h : Heap) : Option R := (kbin .lss v12 v11).bind fun v13 => n8 k G v2 v3 v10 v11 v12 v13 h
theorem n7_eq (G : KT5 R) (σ : GS) (h : Heap) : KC k 25 c7 σ h (fun x σ h => G x (σ 2) (σ 3) (σ 10) (σ 11) (σ 12) h) = n7 k G (σ 2) (σ 3) (σ 10) (σ 11) (σ 12) h := (kseq (a := c14) (b := c8) rfl (fun σ h => n8_eq k G σ h)).trans (by kernel_rfl)
def l6 {R : Type} (k : Nat) (G : KT2 R) : Nat → GV → GV → GV → GV → GV → Heap → Option R
  | 0, _, _, _, _, _, _ => none
  | r + 1, v2, v3, v10, v11, v12, h => n7 k (fun x v2 v3 v10 v11 v12 h => kx x (l6 k G r v2 v3 v10 v11 v12 h) (G x v2 v3 h)) v2 v3 v10 v11 v12 h
theorem l6_eq {R : Type} (k : Nat) (G : KT2 R) : ∀ (r : Nat) (σ : GS) (h : Heap), kloop (fun σ h K => KC k 25 c7 σ h K) r σ h (fun x σ h => G x (σ 2) (σ 3) h) = l6 k G r (σ 2) (σ 3) (σ 10) (σ 11) (σ 12) h
  | 0, _, _ => rfl
  | r + 1, σ, h => (kloop_eq (fun σ h => l6_eq k G r σ h)).trans (n7_eq k (fun x v2 v3 v10 v11 v12 h => kx x (l6 k G r v2 v3 v10 v11 v12 h) (G x v2 v3 h)) σ h)
@[simp] def n6 (G : KT2 R) (v2 v3 v10 v11 v12 : GV) (h : Heap) : Option R := l6 k G k v2 v3 v10 v11 v12 h
theorem n6_eq (G : KT2 R) (σ : GS) (h : Heap) : KC k 25 c6 σ h (fun x σ h => G x (σ 2) (σ 3) h) = n6 k G (σ 2) (σ 3) (σ 10) (σ 11) (σ 12) h := (kloopc_eq (a := c7) rfl).trans (l6_eq k G k σ h)
@[simp] def n5 (G : KT2 R) (v2 v3 v10 v11 v12 : GV) (h : Heap) : Option R := n6 k (fun x v2 v3 h => kb 0 x fun x => G x v2 v3 h) v2 v3 v10 v11 v12 h
theorem n5_eq (G : KT2 R) (σ : GS) (h : Heap) : KC k 25 c5 σ h (fun x σ h => G x (σ 2) (σ 3) h) = n5 k G (σ 2) (σ 3) (σ 10) (σ 11) (σ 12) h := (kblock_eq (a := c6) rfl).trans (n6_eq k (fun x v2 v3 h => kb 0 x fun x => G x v2 v3 h) σ h)
noncomputable def c15 : Code := cL c4
@[simp] def n4 (G : KT2 R) (v1 v2 v3 : GV) (h : Heap) : Option R := (kfa 1 v1).bind fun v9 => (kload1 h v9).bind fun v10 => (klen v10).bind fun v11 => n5 k G v2 v3 v10 v11 (.int .i64 0) h
theorem n4_eq (G : KT2 R) (σ : GS) (h : Heap) : KC k 25 c4 σ h (fun x σ h => G x (σ 2) (σ 3) h) = n4 k G (σ 1) (σ 2) (σ 3) h := (kseq (a := c15) (b := c5) rfl (fun σ h => n5_eq k G σ h)).trans (by kernel_rfl)
@[simp] def n2 (G : KT1 R) (v1 v2 v3 : GV) (h : Heap) : Option R := n4 k (fun x v2 v3 h => kx x (n3 k G v2 v3 h) (G x v2 h)) v1 v2 v3 h
theorem n2_eq (G : KT1 R) (σ : GS) (h : Heap) : KC k 25 c2 σ h (fun x σ h => G x (σ 2) h) = n2 k G (σ 1) (σ 2) (σ 3) h := (kseq (b := c3) rfl (fun σ h => n3_eq k G σ h)).trans (n4_eq k (fun x v2 v3 h => kx x (n3 k G v2 v3 h) (G x v2 h)) σ h)
noncomputable def c16 : Code := cL c1
@[simp] def n1 (G : KT1 R) (v1 v2 : GV) (h : Heap) : Option R := (kfa 0 v1).bind fun v6 => (kload1 h v6).bind fun v7 => (gfill (fun i => [(0, 1), (1, 1)][i]?) [(.int .i64 0), .nils] [(0, v7)]).bind fun c => kagg c h fun v8 h => kalloc [(.int .i64 0), .nils] h fun v3 h => (kstore 2 h v3 v8).bind fun h => n2 k G v1 v2 v3 h
theorem n1_eq (G : KT1 R) (σ : GS) (h : Heap) : KC k 25 c1 σ h (fun x σ h => G x (σ 2) h) = n1 k G (σ 1) (σ 2) h := (kseq (a := c16) (b := c2) rfl (fun σ h => n2_eq k G σ h)).trans (by kernel_rfl)
noncomputable def c17 : Code := cL c0
@[simp] def n0 (G : KT1 R) (v0 : GV) (h : Heap) : Option R := kbox v0 h fun v1 h => kalloc [(.int .i64 0), .nils] h fun v2 h => n1 k G v1 v2 h
theorem n0_eq (G : KT1 R) (σ : GS) (h : Heap) : KC k 25 c0 σ h (fun x σ h => G x (σ 2) h) = n0 k G (σ 0) h := (kseq (a := c17) (b := c1) rfl (fun σ h => n1_eq k G σ h)).trans (by kernel_rfl)
def run {R : Type} (k : Nat) (a0 : GV) (h : Heap) (fin : GV → Heap → Option R) : Option R := n0 k (fun x v2 h => kend x ((kloadA 2 h v2).bind fun w2 => fin w2 h)) a0 h
theorem run_eq {R : Type} (k : Nat) (a0 : GV) (h : Heap) (fin : GV → Heap → Option R) : kfun PP cfg NN HH k fn.impl_Grid_copied [a0] h fin = run k a0 h fin := (kfun_eq (nt := 25) (c := c0) (show PP.funcs[fn.impl_Grid_copied]? = some Try.f176 by kernel_rfl) (by kernel_rfl) (by kernel_rfl) (fun x σ h => by cases x <;> kernel_rfl)).trans (n0_eq k (fun x v2 h => kend x ((kloadA 2 h v2).bind fun w2 => fin w2 h)) _ h)
theorem gives {k : Nat} {a0 : GV} {b : Nat} {q : GV × List (List GV)} (e : run k a0 [] (finO b) = some q) : OO fn.impl_Grid_copied [a0] b = some q := oω_of ((run_eq k a0 [] (finO b)).trans e)
end S.impl_Grid_copied
/-! slices_Concat_impl_Cell_impl_Cell -/
namespace S.slices_Concat_impl_Cell_impl_Cell
noncomputable def c0 : Code := bodyOf Try.f236
noncomputable def c1 : Code := cR c0
noncomputable def c2 : Code := cR c1
noncomputable def c3 : Code := cR c2
noncomputable def c4 : Code := cR c3
noncomputable def c5 : Code := cR c4
@[simp] def n5 {R : Type} (k : Nat) (G : KT1 R) (v6 : GV) (h : Heap) : Option R := G .ret v6 h
theorem n5_eq (G : KT1 R) (σ : GS) (h : Heap) : KC k 36 c5 σ h (fun x σ h => G x (σ 2) h) = n5 k G (σ 6) h := by kernel_rfl
noncomputable def c6 : Code := cL c4
noncomputable def c7 : Code := cR c6
noncomputable def c8 : Code := cL c7
noncomputable def c9 : Code := cL c8
noncomputable def c10 : Code := cR c9
noncomputable def c11 : Code := cR c10
noncomputable def c12 : Code := cR c11
@[simp] def n12 {R : Type} (k : Nat) (G : KT5 R) (v2 v6 v25 v26 v27 : GV) (h : Heap) : Option R := (kbin .add v27 (.int .i64 1)).bind fun v34 => G .nrm v2 v6 v25 v26 v34 h
theorem n12_eq (G : KT5 R) (σ : GS) (h : Heap) : KC k 36 c12 σ h (fun x σ h => G x (σ 2) (σ 6) (σ 25) (σ 26) (σ 27) h) = n12 k G (σ 2) (σ 6) (σ 25) (σ 26) (σ 27) h := by kernel_rfl
noncomputable def c13 : Code := cL c11
noncomputable def c14 : Code := cL c13
@[simp] def n14 {R : Type} (k : Nat) (G : KT5 R) (v2 v6 v25 v26 v27 : GV) (h : Heap) : Option R := (kia 1 v25 v27).bind fun v29 => (kload1 h v29).bind fun v30 => (kapp [.nils] 1 24 v6 v30 h).bind fun r => kr r fun v33 h => G .nrm v2 v33 v25 v26 v27 h
theorem n14_eq (G : KT5 R) (σ : GS) (h : Heap) : KC k 36 c14 σ h (fun x σ h => G x (σ 2) (σ 6) (σ 25) (σ 26) (σ 27) h) = n14 k G (σ 2) (σ 6) (σ 25) (σ 26) (σ 27) h := by kernel_rfl
@[simp] def n13 (G : KT5 R) (v2 v6 v25 v26 v27 : GV) (h : Heap) : Option R := n14 k (fun x v2 v6 v25 v26 v27 h => kb 3 x fun x => G x v2 v6 v25 v26 v27 h) v2 v6 v25 v26 v27 h
theorem n13_eq (G : KT5 R) (σ : GS) (h : Heap) : KC k 36 c13 σ h (fun x σ h => G x (σ 2) (σ 6) (σ 25) (σ 26) (σ 27) h) = n13 k G (σ 2) (σ 6) (σ 25) (σ 26) (σ 27) h := (kblock_eq (a := c14) rfl).trans (n14_eq k (fun x v2 v6 v25 v26 v27 h => kb 3 x fun x => G x v2 v6 v25 v26 v27 h) σ h)
@[simp] def n11 (G : KT5 R) (v2 v6 v25 v26 v27 : GV) (h : Heap) : Option R := n13 k (fun x v2 v6 v25 v26 v27 h => kx x (n12 k G v2 v6 v25 v26 v27 h) (G x v2 v6 v25 v26 v27 h)) v2 v6 v25 v26 v27 h
theorem n11_eq (G : KT5 R) (σ : GS) (h : Heap) : KC k 36 c11 σ h (fun x σ h => G x (σ 2) (σ 6) (σ 25) (σ 26) (σ 27) h) = n11 k G (σ 2) (σ 6) (σ 25) (σ 26) (σ 27) h := (kseq (b := c12) rfl (fun σ h => n12_eq k G σ h)).trans (n13_eq k (fun x v2 v6 v25 v26 v27 h => kx x (n12 k G v2 v6 v25 v26 v27 h) (G x v2 v6 v25 v26 v27 h)) σ h)
noncomputable def c15 : Code := cL c10
@[simp] def n10 (G : KT5 R) (v2 v6 v25 v26 v27 v28 : GV) (h : Heap) : Option R := kcond v28 (n11 k G v2 v6 v25 v26 v27 h) (G (.ext 2) v2 v6 v25 v26 v27 h)
theorem n10_eq (G : KT5 R) (σ : GS) (h : Heap) : KC k 36 c10 σ h (fun x σ h => G x (σ 2) (σ 6) (σ 25) (σ 26) (σ 27) h) = n10 k G (σ 2) (σ 6) (σ 25) (σ 26) (σ 27) (σ 28) h := (kseq (a := c15) (b := c11) rfl (fun σ h => n11_eq k G σ h)).trans (by kernel_rfl)
noncomputable def c16 : Code := cL c9
@[simp] def n9 (G : KT5 R) (v2 v6 v25 v26 v27 : GV) (h : Heap) : Option R := (kbin .lss v27 v26).bind fun v28 => n10 k G v2 v6 v25 v26 v27 v28 h
theorem n9_eq (G : KT5 R) (σ : GS) (h : Heap) : KC k 36 c9 σ h (fun x σ h => G x (σ 2) (σ 6) (σ 25) (σ 26) (σ 27) h) = n9 k G (σ 2) (σ 6) (σ 25) (σ 26) (σ 27) h := (kseq (a := c16) (b := c10) rfl (fun σ h => n10_eq k G σ h)).trans (by kernel_rfl)
def l8 {R : Type} (k : Nat) (G : KT2 R) : Nat → GV → GV → GV → GV → GV → Heap → Option R
  | 0, _, _, _, _, _, _ => none
  | r + 1, v2, v6, v25, v26, v27, h => n9 k (fun x v2 v6 v25 v26 v27 h => kx x (l8 k G r v2 v6 v25 v26 v27 h) (G x v2 v6 h)) v2 v6 v25 v26 v27 h
theorem l8_eq {R : Type} (k : Nat) (G : KT2 R) : ∀ (r : Nat) (σ : GS) (h : Heap), kloop (fun σ h K => KC k 36 c9 σ h K) r σ h (fun x σ h => G x (σ 2) (σ 6) h) = l8 k G r (σ 2) (σ 6) (σ 25) (σ 26) (σ 27) h
  | 0, _, _ => rfl
  | r + 1, σ, h => (kloop_eq (fun σ h => l8_eq k G r σ h)).trans (n9_eq k (fun x v2 v6 v25 v26 v27 h => kx x (l8 k G r v2 v6 v25 v26 v27 h) (G x v2 v6 h)) σ h)
@[simp] def n8 (G : KT2 R) (v2 v6 v25 v26 v27 : GV) (h : Heap) : Option R := l8 k G k v2 v6 v25 v26 v27 h
theorem n8_eq (G : KT2 R) (σ : GS) (h : Heap) : KC k 36 c8 σ h (fun x σ h => G x (σ 2) (σ 6) h) = n8 k G (σ 2) (σ 6) (σ 25) (σ 26) (σ 27) h := (kloopc_eq (a := c9) rfl).trans (l8_eq k G k σ h)
@[simp] def n7 (G : KT2 R) (v2 v6 v25 v26 v27 : GV) (h : Heap) : Option R := n8 k (fun x v2 v6 h => kb 2 x fun x => G x v2 v6 h) v2 v6 v25 v26 v27 h
theorem n7_eq (G : KT2 R) (σ : GS) (h : Heap) : KC k 36 c7 σ h (fun x σ h => G x (σ 2) (σ 6) h) = n7 k G (σ 2) (σ 6) (σ 25) (σ 26) (σ 27) h := (kblock_eq (a := c8) rfl).trans (n8_eq k (fun x v2 v6 h => kb 2 x fun x => G x v2 v6 h) σ h)
noncomputable def c17 : Code := cL c6
@[simp] def n6 (G : KT2 R) (v0 v2 v6 : GV) (h : Heap) : Option R := (klen v0).bind fun v26 => n7 k G v2 v6 v0 v26 (.int .i64 0) h
theorem n6_eq (G : KT2 R) (σ : GS) (h : Heap) : KC k 36 c6 σ h (fun x σ h => G x (σ 2) (σ 6) h) = n6 k G (σ 0) (σ 2) (σ 6) h := (kseq (a := c17) (b := c7) rfl (fun σ h => n7_eq k G σ h)).trans (by kernel_rfl)
@[simp] def n4 (G : KT1 R) (v0 v2 v6 : GV) (h : Heap) : Option R := n6 k (fun x v2 v6 h => kx x (n5 k G v6 h) (G x v2 h)) v0 v2 v6 h
theorem n4_eq (G : KT1 R) (σ : GS) (h : Heap) : KC k 36 c4 σ h (fun x σ h => G x (σ 2) h) = n4 k G (σ 0) (σ 2) (σ 6) h := (kseq (b := c5) rfl (fun σ h => n5_eq k G σ h)).trans (n6_eq k (fun x v2 v6 h => kx x (n5 k G v6 h) (G x v2 h)) σ h)
noncomputable def c18 : Code := cL c3
@[simp] def n3 (G : KT1 R) (v0 v2 v3 : GV) (h : Heap) : Option R := (HH fn.slices_Grow_impl_Cell_impl_Cell [.nils, v3] h).bind fun r => kr r fun v24 h => n4 k G v0 v2 v24 h
theorem n3_eq (G : KT1 R) (σ : GS) (h : Heap) : KC k 36 c3 σ h (fun x σ h => G x (σ 2) h) = n3 k G (σ 0) (σ 2) (σ 3) h := (kseq (a := c18) (b := c4) rfl (fun σ h => n4_eq k G σ h)).trans (by kernel_rfl)
noncomputable def c19 : Code := cL c2
noncomputable def c20 : Code := cR c19
noncomputable def c21 : Code := cL c20
noncomputable def c22 : Code := cL c21
noncomputable def c23 : Code := cR c22
noncomputable def c24 : Code := cR c23
noncomputable def c25 : Code := cR c24
@[simp] def n25 {R : Type} (k : Nat) (G : KT6 R) (v0 v2 v3 v9 v10 v11 : GV) (h : Heap) : Option R := (kbin .add v11 (.int .i64 1)).bind fun v22 => G .nrm v0 v2 v3 v9 v10 v22 h
theorem n25_eq (G : KT6 R) (σ : GS) (h : Heap) : KC k 36 c25 σ h (fun x σ h => G x (σ 0) (σ 2) (σ 3) (σ 9) (σ 10) (σ 11) h) = n25 k G (σ 0) (σ 2) (σ 3) (σ 9) (σ 10) (σ 11) h := by kernel_rfl
noncomputable def c26 : Code := cL c24
noncomputable def c27 : Code := cL c26
@[simp] def n27 {R : Type} (k : Nat) (G : KT6 R) (v0 v2 v3 v9 v10 v11 : GV) (h : Heap) : Option R := (kia 1 v9 v11).bind fun v13 => (kload1 h v13).bind fun v14 => (klen v14).bind fun v17 => (kbin .add v3 v17).bind fun v18 => (kbin .lss v18 (.int .i64 0)).bind fun v20 => kcond v20 (none) (G .nrm v0 v2 v18 v9 v10 v11 h)
theorem n27_eq (G : KT6 R) (σ : GS) (h : Heap) : KC k 36 c27 σ h (fun x σ h => G x (σ 0) (σ 2) (σ 3) (σ 9) (σ 10) (σ 11) h) = n27 k G (σ 0) (σ 2) (σ 3) (σ 9) (σ 10) (σ 11) h := by kernel_rfl
@[simp] def n26 (G : KT6 R) (v0 v2 v3 v9 v10 v11 : GV) (h : Heap) : Option R := n27 k (fun x v0 v2 v3 v9 v10 v11 h => kb 1 x fun x => G x v0 v2 v3 v9 v10 v11 h) v0 v2 v3 v9 v10 v11 h
theorem n26_eq (G : KT6 R) (σ : GS) (h : Heap) : KC k 36 c26 σ h (fun x σ h => G x (σ 0) (σ 2) (σ 3) (σ 9) (σ 10) (σ 11) h) = n26 k G (σ 0) (σ 2) (σ 3) (σ 9) (σ 10) (σ 11) h := (kblock_eq (a := c27) rfl).trans (n27_eq k (fun x v0 v2 v3 v9 v10 v11 h => kb 1 x fun x => G x v0 v2 v3 v9 v10 v11 h) σ h)
@[simp] def n24 (G : KT6 R) (v0 v2 v3 v9 v10 v11 : GV) (h : Heap) : Option R := n26 k (fun x v0 v2 v3 v9 v10 v11 h => kx x (n25 k G v0 v2 v3 v9 v10 v11 h) (G x v0 v2 v3 v9 v10 v11 h)) v0 v2 v3 v9 v10 v11 h
theorem n24_eq (G : KT6 R) (σ : GS) (h : Heap) : KC k 36 c24 σ h (fun x σ h => G x (σ 0) (σ 2) (σ 3) (σ 9) (σ 10) (σ 11) h) = n24 k G (σ 0) (σ 2) (σ 3) (σ 9) (σ 10) (σ 11) h := (kseq (b := c25) rfl (fun σ h => n25_eq k G σ h)).trans (n26_eq k (fun x v0 v2 v3 v9 v10 v11 h => kx x (n25 k G v0 v2 v3 v9 v10 v11 h) (G x v0 v2 v3 v9 v10 v11 h)) σ h)
noncomputable def c28 : Code := cL c23
@[simp] def n23 (G : KT6 R) (v0 v2 v3 v9 v10 v11 v12 : GV) (h : Heap) : Option R := kcond v12 (n24 k G v0 v2 v3 v9 v10 v11 h) (G (.ext 0) v0 v2 v3 v9 v10 v11 h)
theorem n23_eq (G : KT6 R) (σ : GS) (h : Heap) : KC k 36 c23 σ h (fun x σ h => G x (σ 0) (σ 2) (σ 3) (σ 9) (σ 10) (σ 11) h) = n23 k G (σ 0) (σ 2) (σ 3) (σ 9) (σ 10) (σ 11) (σ 12) h := (kseq (a := c28) (b := c24) rfl (fun σ h => n24_eq k G σ h)).trans (by kernel_rfl)
noncomputable def c29 : Code := cL c22
@[simp] def n22 (G : KT6 R) (v0 v2 v3 v9 v10 v11 : GV) (h : Heap) : Option R := (kbin .lss v11 v10).bind fun v12 => n23 k G v0 v2 v3 v9 v10 v11 v12 h
theorem n22_eq (G : KT6 R) (σ : GS) (h : Heap) : KC k 36 c22 σ h (fun x σ h => G x (σ 0) (σ 2) (σ 3) (σ 9) (σ 10) (σ 11) h) = n22 k G (σ 0) (σ 2) (σ 3) (σ 9) (σ 10) (σ 11) h := (kseq (a := c29) (b := c23) rfl (fun σ h => n23_eq k G σ h)).trans (by kernel_rfl)
def l21 {R : Type} (k : Nat) (G : KT3 R) : Nat → GV → GV → GV → GV → GV → GV → Heap → Option R
  | 0, _, _, _, _, _, _, _ => none
  | r + 1, v0, v2, v3, v9, v10, v11, h => n22 k (fun x v0 v2 v3 v9 v10 v11 h => kx x (l21 k G r v0 v2 v3 v9 v10 v11 h) (G x v0 v2 v3 h)) v0 v2 v3 v9 v10 v11 h
theorem l21_eq {R : Type} (k : Nat) (G : KT3 R) : ∀ (r : Nat) (σ : GS) (h : Heap), kloop (fun σ h K => KC k 36 c22 σ h K) r σ h (fun x σ h => G x (σ 0) (σ 2) (σ 3) h) = l21 k G r (σ 0) (σ 2) (σ 3) (σ 9) (σ 10) (σ 11) h
  | 0, _, _ => rfl
  | r + 1, σ, h => (kloop_eq (fun σ h => l21_eq k G r σ h)).trans (n22_eq k (fun x v0 v2 v3 v9 v10 v11 h => kx x (l21 k G r v0 v2 v3 v9 v10 v11 h) (G x v0 v2 v3 h)) σ h)
@[simp] def n21 (G : KT3 R) (v0 v2 v3 v9 v10 v11 : GV) (h : Heap) : Option R := l21 k G k v0 v2 v3 v9 v10 v11 h
theorem n21_eq (G : KT3 R) (σ : GS) (h : Heap) : KC k 36 c21 σ h (fun x σ h => G x (σ 0) (σ 2) (σ 3) h) = n21 k G (σ 0) (σ 2) (σ 3) (σ 9) (σ 10) (σ 11) h := (kloopc_eq (a := c22) rfl).trans (l21_eq k G k σ h)
@[simp] def n20 (G : KT3 R) (v0 v2 v3 v9 v10 v11 : GV) (h : Heap) : Option R := n21 k (fun x v0 v2 v3 h => kb 0 x fun x => G x v0 v2 v3 h) v0 v2 v3 v9 v10 v11 h
theorem n20_eq (G : KT3 R) (σ : GS) (h : Heap) : KC k 36 c20 σ h (fun x σ h => G x (σ 0) (σ 2) (σ 3) h) = n20 k G (σ 0) (σ 2) (σ 3) (σ 9) (σ 10) (σ 11) h := (kblock_eq (a := c21) rfl).trans (n21_eq k (fun x v0 v2 v3 h => kb 0 x fun x => G x v0 v2 v3 h) σ h)
noncomputable def c30 : Code := cL c19
@[simp] def n19 (G : KT3 R) (v0 v2 v3 : GV) (h : Heap) : Option R := (klen v0).bind fun v10 => n20 k G v0 v2 v3 v0 v10 (.int .i64 0) h
theorem n19_eq (G : KT3 R) (σ : GS) (h : Heap) : KC k 36 c19 σ h (fun x σ h => G x (σ 0) (σ 2) (σ 3) h) = n19 k G (σ 0) (σ 2) (σ 3) h := (kseq (a := c30) (b := c20) rfl (fun σ h => n20_eq k G σ h)).trans (by kernel_rfl)
@[simp] def n2 (G : KT1 R) (v0 v2 v3 : GV) (h : Heap) : Option R := n19 k (fun x v0 v2 v3 h => kx x (n3 k G v0 v2 v3 h) (G x v2 h)) v0 v2 v3 h
theorem n2_eq (G : KT1 R) (σ : GS) (h : Heap) : KC k 36 c2 σ h (fun x σ h => G x (σ 2) h) = n2 k G (σ 0) (σ 2) (σ 3) h := (kseq (b := c3) rfl (fun σ h => n3_eq k G σ h)).trans (n19_eq k (fun x v0 v2 v3 h => kx x (n3 k G v0 v2 v3 h) (G x v2 h)) σ h)
noncomputable def c31 : Code := cL c1
@[simp] def n1 (G : KT1 R) (v0 v2 : GV) (h : Heap) : Option R := n2 k G v0 v2 (.int .i64 0) h
theorem n1_eq (G : KT1 R) (σ : GS) (h : Heap) : KC k 36 c1 σ h (fun x σ h => G x (σ 2) h) = n1 k G (σ 0) (σ 2) h := (kseq (a := c31) (b := c2) rfl (fun σ h => n2_eq k G σ h)).trans (by kernel_rfl)
noncomputable def c32 : Code := cL c0
@[simp] def n0 (G : KT1 R) (v0 : GV) (h : Heap) : Option R := n1 k G v0 .nils h
theorem n0_eq (G : KT1 R) (σ : GS) (h : Heap) : KC k 36 c0 σ h (fun x σ h => G x (σ 2) h) = n0 k G (σ 0) h := (kseq (a := c32) (b := c1) rfl (fun σ h => n1_eq k G σ h)).trans (by kernel_rfl)
def run {R : Type} (k : Nat) (a0 : GV) (h : Heap) (fin : GV → Heap → Option R) : Option R := n0 k (fun x v2 h => kend x (fin v2 h)) a0 h
theorem run_eq {R : Type} (k : Nat) (a0 : GV) (h : Heap) (fin : GV → Heap → Option R) : kfun PP cfg NN HH k fn.slices_Concat_impl_Cell_impl_Cell [a0] h fin = run k a0 h fin := (kfun_eq (nt := 36) (c := c0) (show PP.funcs[fn.slices_Concat_impl_Cell_impl_Cell]? = some Try.f236 by kernel_rfl) (by kernel_rfl) (by kernel_rfl) (fun x σ h => by cases x <;> kernel_rfl)).trans (n0_eq k (fun x v2 h => kend x (fin v2 h)) _ h)
theorem gives {k : Nat} {a0 : GV} {h : Heap} {r : GV × Heap} (e : run k a0 h finH = some r) : HH fn.slices_Concat_impl_Cell_impl_Cell [a0] h = some r := kω_of ((run_eq k a0 h finH).trans e)
end S.slices_Concat_impl_Cell_impl_Cell
/-! slices_Grow_impl_Cell_impl_Cell -/
namespace S.slices_Grow_impl_Cell_impl_Cell
noncomputable def c0 : Code := bodyOf Try.f272
noncomputable def c1 : Code := cR c0
noncomputable def c2 : Code := cR c1
noncomputable def c3 : Code := cR c2
@[simp] def n3 {R : Type} (k : Nat) (G : KT1 R) (v0 : GV) (h : Heap) : Option R := G .ret v0 h
theorem n3_eq (G : KT1 R) (σ : GS) (h : Heap) : KC k 27 c3 σ h (fun x σ h => G x (σ 4) h) = n3 k G (σ 0) h := by kernel_rfl
noncomputable def c4 : Code := cL c2
@[simp] def n2 (G : KT1 R) (v0 v1 v4 : GV) (h : Heap) : Option R := (kcap v0).bind fun v10 => (klen v0).bind fun v12 => (kbin .sub v10 v12).bind fun v13 => (kbin .sub v1 v13).bind fun v14 => (kbin .gtr v14 (.int .i64 0)).bind fun v16 => kcond v16 ((kcap v0).bind fun v19 => (ksl 1 v0 none (some v19) none).bind fun v20 => (kapz [.nils] 1 24 v20 v14 h).bind fun r => kr r fun v22 h => (klen v0).bind fun v24 => (ksl 1 v22 none (some v24) none).bind fun v25 => n3 k G v25 h) (n3 k G v0 h)
theorem n2_eq (G : KT1 R) (σ : GS) (h : Heap) : KC k 27 c2 σ h (fun x σ h => G x (σ 4) h) = n2 k G (σ 0) (σ 1) (σ 4) h := (kseq (a := c4) (b := c3) rfl (fun σ h => n3_eq k G σ h)).trans (by kernel_rfl)
noncomputable def c5 : Code := cL c1
@[simp] def n1 (G : KT1 R) (v0 v1 v4 : GV) (h : Heap) : Option R := (kbin .lss v1 (.int .i64 0)).bind fun v6 => kcond v6 (none) (n2 k G v0 v1 v4 h)
theorem n1_eq (G : KT1 R) (σ : GS) (h : Heap) : KC k 27 c1 σ h (fun x σ h => G x (σ 4) h) = n1 k G (σ 0) (σ 1) (σ 4) h := (kseq (a := c5) (b := c2) rfl (fun σ h => n2_eq k G σ h)).trans (by kernel_rfl)
noncomputable def c6 : Code := cL c0
@[simp] def n0 (G : KT1 R) (v0 v1 : GV) (h : Heap) : Option R := n1 k G v0 v1 .nils h
theorem n0_eq (G : KT1 R) (σ : GS) (h : Heap) : KC k 27 c0 σ h (fun x σ h => G x (σ 4) h) = n0 k G (σ 0) (σ 1) h := (kseq (a := c6) (b := c1) rfl (fun σ h => n1_eq k G σ h)).trans (by kernel_rfl)
def run {R : Type} (k : Nat) (a0 : GV) (a1 : GV) (h : Heap) (fin : GV → Heap → Option R) : Option R := n0 k (fun x v4 h => kend x (fin v4 h)) a0 a1 h
theorem run_eq {R : Type} (k : Nat) (a0 : GV) (a1 : GV) (h : Heap) (fin : GV → Heap → Option R) : kfun PP cfg NN HH k fn.slices_Grow_impl_Cell_impl_Cell [a0, a1] h fin = run k a0 a1 h fin := (kfun_eq (nt := 27) (c := c0) (show PP.funcs[fn.slices_Grow_impl_Cell_impl_Cell]? = some Try.f272 by kernel_rfl) (by kernel_rfl) (by kernel_rfl) (fun x σ h => by cases x <;> kernel_rfl)).trans (n0_eq k (fun x v4 h => kend x (fin v4 h)) _ h)
theorem gives {k : Nat} {a0 : GV} {a1 : GV} {h : Heap} {r : GV × Heap} (e : run k a0 a1 h finH = some r) : HH fn.slices_Grow_impl_Cell_impl_Cell [a0, a1] h = some r := kω_of ((run_eq k a0 a1 h finH).trans e)
end S.slices_Grow_impl_Cell_impl_Cell
/-! impl_Blank -/
namespace S.impl_Blank
noncomputable def c0 : Code := bodyOf Try.f258
noncomputable def c1 : Code := cR c0
noncomputable def c2 : Code := cR c1
@[simp] def n2 {R : Type} (k : Nat) (G : KT1 R) (v0 v3 : GV) (h : Heap) : Option R := (kloadA 5 h v3).bind fun v13 => (kN NN fn.impl_blank [v13] h).bind fun v14 => (gfill (fun i => some (i * 7, 7)) (zeros [(.int .i64 0), (.int .i64 0), (.int .i64 0), (.bool false), (.bool false), (.bool false), (.int .i64 0)] 1) [(0, v14)]).bind fun c => kbs 1 7 c h fun v15 h => (kF false HH fn.slices_Repeat_impl_Cell [v15, v0] h).bind fun r => kr r fun v17 h => G .ret v17 h
theorem n2_eq (G : KT1 R) (σ : GS) (h : Heap) : KC k 18 c2 σ h (fun x σ h => G x (σ 4) h) = n2 k G (σ 0) (σ 3) h := by kernel_rfl
noncomputable def c3 : Code := cL c1
noncomputable def c4 : Code := cR c3
@[simp] def n4 {R : Type} (k : Nat) (G : KT3 R) (v0 v3 v4 v12 : GV) (h : Heap) : Option R := kcond v12 (G .ret v0 v3 .nils h) (G .nrm v0 v3 v4 h)
theorem n4_eq (G : KT3 R) (σ : GS) (h : Heap) : KC k 18 c4 σ h (fun x σ h => G x (σ 0) (σ 3) (σ 4) h) = n4 k G (σ 0) (σ 3) (σ 4) (σ 12) h := by kernel_rfl
noncomputable def c5 : Code := cL c3
noncomputable def o5 : Array Oper := cO c5
@[simp] def g5_2 {R : Type} (k : Nat) (G : KT4 R) (v0 v3 v4 v8 v11 : GV) (h : Heap) : Option R := (kpick v8 (.bool true) v11).bind fun v12 => G .nrm v0 v3 v4 v12 h
theorem g5_2_eq (G : KT4 R) (σ : GS) (h : Heap) : kgroups PP cfg NN HH 18 o5 [(none, [7])] σ h (fun σ h => G .nrm (σ 0) (σ 3) (σ 4) (σ 12) h) = g5_2 k G (σ 0) (σ 3) (σ 4) (σ 8) (σ 11) h := by kernel_rfl
@[simp] def g5_1 (G : KT4 R) (v0 v3 v4 v8 : GV) (h : Heap) : Option R := bif tr false v8 then (kloadA 5 h v3).bind fun v9 => (kN NN fn.impl_StyleOk [v9] h).bind fun v10 => (kun .not v10).bind fun v11 => g5_2 k G v0 v3 v4 v8 v11 h else g5_2 k G v0 v3 v4 v8 .un h
theorem g5_1_eq (G : KT4 R) (σ : GS) (h : Heap) : kgroups PP cfg NN HH 18 o5 [(some (3, false), [4, 5, 6]), (none, [7])] σ h (fun σ h => G .nrm (σ 0) (σ 3) (σ 4) (σ 12) h) = g5_1 k G (σ 0) (σ 3) (σ 4) (σ 8) h := (kgroups_cons (fun σ h => g5_2_eq k G σ h)).trans (by kernel_rfl)
@[simp] def g5_0 (G : KT4 R) (v0 v3 v4 : GV) (h : Heap) : Option R := (kN NN fn.impl_in [v0, (.int .i64 1), (.int .i64 60)] h).bind fun v6 => (kun .not v6).bind fun v7 => g5_1 k G v0 v3 v4 v7 h
theorem g5_0_eq (G : KT4 R) (σ : GS) (h : Heap) : kgroups PP cfg NN HH 18 o5 [(none, [0, 1, 2, 3]), (some (3, false), [4, 5, 6]), (none, [7])] σ h (fun σ h => G .nrm (σ 0) (σ 3) (σ 4) (σ 12) h) = g5_0 k G (σ 0) (σ 3) (σ 4) h := (kgroups_cons (fun σ h => g5_1_eq k G σ h)).trans (by kernel_rfl)
@[simp] def n5 (G : KT4 R) (v0 v3 v4 : GV) (h : Heap) : Option R := g5_0 k G v0 v3 v4 h
theorem n5_eq (G : KT4 R) (σ : GS) (h : Heap) : KC k 18 c5 σ h (fun x σ h => G x (σ 0) (σ 3) (σ 4) (σ 12) h) = n5 k G (σ 0) (σ 3) (σ 4) h := (kregion_eq (id := 1) (draw := false) (ops := o5) (gs := [(none, [0, 1, 2, 3]), (some (3, false), [4, 5, 6]), (none, [7])]) (by kernel_rfl) (by kernel_rfl) (by kernel_rfl)).trans (g5_0_eq k G σ h)
@[simp] def n3 (G : KT3 R) (v0 v3 v4 : GV) (h : Heap) : Option R := n5 k (fun x v0 v3 v4 v12 h => kx x (n4 k G v0 v3 v4 v12 h) (G x v0 v3 v4 h)) v0 v3 v4 h
theorem n3_eq (G : KT3 R) (σ : GS) (h : Heap) : KC k 18 c3 σ h (fun x σ h => G x (σ 0) (σ 3) (σ 4) h) = n3 k G (σ 0) (σ 3) (σ 4) h := (kseq (b := c4) rfl (fun σ h => n4_eq k G σ h)).trans (n5_eq k (fun x v0 v3 v4 v12 h => kx x (n4 k G v0 v3 v4 v12 h) (G x v0 v3 v4 h)) σ h)
@[simp] def n1 (G : KT1 R) (v0 v3 v4 : GV) (h : Heap) : Option R := n3 k (fun x v0 v3 v4 h => kx x (n2 k G v0 v3 h) (G x v4 h)) v0 v3 v4 h
theorem n1_eq (G : KT1 R) (σ : GS) (h : Heap) : KC k 18 c1 σ h (fun x σ h => G x (σ 4) h) = n1 k G (σ 0) (σ 3) (σ 4) h := (kseq (b := c2) rfl (fun σ h => n2_eq k G σ h)).trans (n3_eq k (fun x v0 v3 v4 h => kx x (n2 k G v0 v3 h) (G x v4 h)) σ h)
noncomputable def c6 : Code := cL c0
@[simp] def n0 (G : KT1 R) (v0 v1 : GV) (h : Heap) : Option R := kbox v1 h fun v3 h => n1 k G v0 v3 .nils h
theorem n0_eq (G : KT1 R) (σ : GS) (h : Heap) : KC k 18 c0 σ h (fun x σ h => G x (σ 4) h) = n0 k G (σ 0) (σ 1) h := (kseq (a := c6) (b := c1) rfl (fun σ h => n1_eq k G σ h)).trans (by kernel_rfl)
def run {R : Type} (k : Nat) (a0 : GV) (a1 : GV) (h : Heap) (fin : GV → Heap → Option R) : Option R := n0 k (fun x v4 h => kend x (fin v4 h)) a0 a1 h
theorem run_eq {R : Type} (k : Nat) (a0 : GV) (a1 : GV) (h : Heap) (fin : GV → Heap → Option R) : kfun PP cfg NN HH k fn.impl_Blank [a0, a1] h fin = run k a0 a1 h fin := (kfun_eq (nt := 18) (c := c0) (show PP.funcs[fn.impl_Blank]? = some Try.f258 by kernel_rfl) (by kernel_rfl) (by kernel_rfl) (fun x σ h => by cases x <;> kernel_rfl)).trans (n0_eq k (fun x v4 h => kend x (fin v4 h)) _ h)
theorem gives {k : Nat} {a0 : GV} {a1 : GV} {b : Nat} {q : GV × List (List GV)} (e : run k a0 a1 [] (finO b) = some q) : OO fn.impl_Blank [a0, a1] b = some q := oω_of ((run_eq k a0 a1 [] (finO b)).trans e)
end S.impl_Blank
/-! slices_Repeat_impl_Cell -/
namespace S.slices_Repeat_impl_Cell
noncomputable def c0 : Code := bodyOf Try.f282
noncomputable def c1 : Code := cR c0
noncomputable def c2 : Code := cR c1
noncomputable def c3 : Code := cR c2
noncomputable def c4 : Code := cR c3
noncomputable def c5 : Code := cR c4
noncomputable def c6 : Code := cR c5
noncomputable def c7 : Code := cR c6
@[simp] def n7 {R : Type} (k : Nat) (G : KT1 R) (v7 : GV) (h : Heap) : Option R := G .ret v7 h
theorem n7_eq (G : KT1 R) (σ : GS) (h : Heap) : KC k 48 c7 σ h (fun x σ h => G x (σ 4) h) = n7 k G (σ 7) h := by kernel_rfl
noncomputable def c8 : Code := cL c6
noncomputable def c9 : Code := cL c8
noncomputable def c10 : Code := cL c9
noncomputable def c11 : Code := cR c10
noncomputable def c12 : Code := cL c11
@[simp] def n12 {R : Type} (k : Nat) (G : KT3 R) (v4 v7 v8 : GV) (h : Heap) : Option R := (ksl 7 v7 (some v8) none none).bind fun v41 => (ksl 7 v7 none (some v8) none).bind fun v44 => (kcopy 7 v41 v44 h).bind fun r => kr r fun v45 h => (kbin .add v8 v45).bind fun v46 => G .nrm v4 v7 v46 h
theorem n12_eq (G : KT3 R) (σ : GS) (h : Heap) : KC k 48 c12 σ h (fun x σ h => G x (σ 4) (σ 7) (σ 8) h) = n12 k G (σ 4) (σ 7) (σ 8) h := by kernel_rfl
@[simp] def n11 (G : KT3 R) (v4 v7 v8 : GV) (h : Heap) : Option R := n12 k (fun x v4 v7 v8 h => kb 1 x fun x => G x v4 v7 v8 h) v4 v7 v8 h
theorem n11_eq (G : KT3 R) (σ : GS) (h : Heap) : KC k 48 c11 σ h (fun x σ h => G x (σ 4) (σ 7) (σ 8) h) = n11 k G (σ 4) (σ 7) (σ 8) h := (kblock_eq (a := c12) rfl).trans (n12_eq k (fun x v4 v7 v8 h => kb 1 x fun x => G x v4 v7 v8 h) σ h)
noncomputable def c13 : Code := cL c10
@[simp] def n10 (G : KT3 R) (v4 v7 v8 : GV) (h : Heap) : Option R := (klen v7).bind fun v36 => (kbin .lss v8 v36).bind fun v37 => kcond v37 (n11 k G v4 v7 v8 h) (G (.ext 0) v4 v7 v8 h)
theorem n10_eq (G : KT3 R) (σ : GS) (h : Heap) : KC k 48 c10 σ h (fun x σ h => G x (σ 4) (σ 7) (σ 8) h) = n10 k G (σ 4) (σ 7) (σ 8) h := (kseq (a := c13) (b := c11) rfl (fun σ h => n11_eq k G σ h)).trans (by kernel_rfl)
def l9 {R : Type} (k : Nat) (G : KT2 R) : Nat → GV → GV → GV → Heap → Option R
  | 0, _, _, _, _ => none
  | r + 1, v4, v7, v8, h => n10 k (fun x v4 v7 v8 h => kx x (l9 k G r v4 v7 v8 h) (G x v4 v7 h)) v4 v7 v8 h
theorem l9_eq {R : Type} (k : Nat) (G : KT2 R) : ∀ (r : Nat) (σ : GS) (h : Heap), kloop (fun σ h K => KC k 48 c10 σ h K) r σ h (fun x σ h => G x (σ 4) (σ 7) h) = l9 k G r (σ 4) (σ 7) (σ 8) h
  | 0, _, _ => rfl
  | r + 1, σ, h => (kloop_eq (fun σ h => l9_eq k G r σ h)).trans (n10_eq k (fun x v4 v7 v8 h => kx x (l9 k G r v4 v7 v8 h) (G x v4 v7 h)) σ h)
@[simp] def n9 (G : KT2 R) (v4 v7 v8 : GV) (h : Heap) : Option R := l9 k G k v4 v7 v8 h
theorem n9_eq (G : KT2 R) (σ : GS) (h : Heap) : KC k 48 c9 σ h (fun x σ h => G x (σ 4) (σ 7) h) = n9 k G (σ 4) (σ 7) (σ 8) h := (kloopc_eq (a := c10) rfl).trans (l9_eq k G k σ h)
@[simp] def n8 (G : KT2 R) (v4 v7 v8 : GV) (h : Heap) : Option R := n9 k (fun x v4 v7 h => kb 0 x fun x => G x v4 v7 h) v4 v7 v8 h
theorem n8_eq (G : KT2 R) (σ : GS) (h : Heap) : KC k 48 c8 σ h (fun x σ h => G x (σ 4) (σ 7) h) = n8 k G (σ 4) (σ 7) (σ 8) h := (kblock_eq (a := c9) rfl).trans (n9_eq k (fun x v4 v7 h => kb 0 x fun x => G x v4 v7 h) σ h)
@[simp] def n6 (G : KT1 R) (v4 v7 v8 : GV) (h : Heap) : Option R := n8 k (fun x v4 v7 h => kx x (n7 k G v7 h) (G x v4 h)) v4 v7 v8 h
theorem n6_eq (G : KT1 R) (σ : GS) (h : Heap) : KC k 48 c6 σ h (fun x σ h => G x (σ 4) h) = n6 k G (σ 4) (σ 7) (σ 8) h := (kseq (b := c7) rfl (fun σ h => n7_eq k G σ h)).trans (n8_eq k (fun x v4 v7 h => kx x (n7 k G v7 h) (G x v4 h)) σ h)
noncomputable def c14 : Code := cL c5
@[simp] def n5 (G : KT1 R) (v0 v4 v7 : GV) (h : Heap) : Option R := (kcopy 7 v7 v0 h).bind fun r => kr r fun v33 h => n6 k G v4 v7 v33 h
theorem n5_eq (G : KT1 R) (σ : GS) (h : Heap) : KC k 48 c5 σ h (fun x σ h => G x (σ 4) h) = n5 k G (σ 0) (σ 4) (σ 7) h := (kseq (a := c14) (b := c6) rfl (fun σ h => n6_eq k G σ h)).trans (by kernel_rfl)
noncomputable def c15 : Code := cL c4
@[simp] def n4 (G : KT1 R) (v0 v4 v6 : GV) (h : Heap) : Option R := (kconvI .i64 v6).bind fun v29 => (kmake [(.int .i64 0), (.int .i64 0), (.int .i64 0), (.bool false), (.bool false), (.bool false), (.int .i64 0)] 7 40 v29 v29 h).bind fun r => kr r fun v30 h => n5 k G v0 v4 v30 h
theorem n4_eq (G : KT1 R) (σ : GS) (h : Heap) : KC k 48 c4 σ h (fun x σ h => G x (σ 4) h) = n4 k G (σ 0) (σ 4) (σ 6) h := (kseq (a := c15) (b := c5) rfl (fun σ h => n5_eq k G σ h)).trans (by kernel_rfl)
noncomputable def c16 : Code := cL c3
noncomputable def c17 : Code := cR c16
@[simp] def n17 {R : Type} (k : Nat) (G : KT3 R) (v0 v4 v6 v26 : GV) (h : Heap) : Option R := kcond v26 (none) (G .nrm v0 v4 v6 h)
theorem n17_eq (G : KT3 R) (σ : GS) (h : Heap) : KC k 48 c17 σ h (fun x σ h => G x (σ 0) (σ 4) (σ 6) h) = n17 k G (σ 0) (σ 4) (σ 6) (σ 26) h := by kernel_rfl
noncomputable def c18 : Code := cL c16
noncomputable def o18 : Array Oper := cO c18
@[simp] def g18_2 {R : Type} (k : Nat) (G : KT4 R) (v0 v4 v6 v23 v25 : GV) (h : Heap) : Option R := (kpick v23 (.bool true) v25).bind fun v26 => G .nrm v0 v4 v6 v26 h
theorem g18_2_eq (G : KT4 R) (σ : GS) (h : Heap) : kgroups PP cfg NN HH 48 o18 [(none, [5])] σ h (fun σ h => G .nrm (σ 0) (σ 4) (σ 6) (σ 26) h) = g18_2 k G (σ 0) (σ 4) (σ 6) (σ 23) (σ 25) h := by kernel_rfl
@[simp] def g18_1 (G : KT4 R) (v0 v4 v6 v23 : GV) (h : Heap) : Option R := bif tr false v23 then (kbin .gtr v6 (.int .u64 9223372036854775807)).bind fun v25 => g18_2 k G v0 v4 v6 v23 v25 h else g18_2 k G v0 v4 v6 v23 .un h
theorem g18_1_eq (G : KT4 R) (σ : GS) (h : Heap) : kgroups PP cfg NN HH 48 o18 [(some (2, false), [3, 4]), (none, [5])] σ h (fun σ h => G .nrm (σ 0) (σ 4) (σ 6) (σ 26) h) = g18_1 k G (σ 0) (σ 4) (σ 6) (σ 23) h := (kgroups_cons (fun σ h => g18_2_eq k G σ h)).trans (by kernel_rfl)
@[simp] def g18_0 (G : KT4 R) (v0 v4 v5 v6 : GV) (h : Heap) : Option R := (kbin .gtr v5 (.int .u64 0)).bind fun v22 => g18_1 k G v0 v4 v6 v22 h
theorem g18_0_eq (G : KT4 R) (σ : GS) (h : Heap) : kgroups PP cfg NN HH 48 o18 [(none, [0, 1, 2]), (some (2, false), [3, 4]), (none, [5])] σ h (fun σ h => G .nrm (σ 0) (σ 4) (σ 6) (σ 26) h) = g18_0 k G (σ 0) (σ 4) (σ 5) (σ 6) h := (kgroups_cons (fun σ h => g18_1_eq k G σ h)).trans (by kernel_rfl)
@[simp] def n18 (G : KT4 R) (v0 v4 v5 v6 : GV) (h : Heap) : Option R := g18_0 k G v0 v4 v5 v6 h
theorem n18_eq (G : KT4 R) (σ : GS) (h : Heap) : KC k 48 c18 σ h (fun x σ h => G x (σ 0) (σ 4) (σ 6) (σ 26) h) = n18 k G (σ 0) (σ 4) (σ 5) (σ 6) h := (kregion_eq (id := 4) (draw := false) (ops := o18) (gs := [(none, [0, 1, 2]), (some (2, false), [3, 4]), (none, [5])]) (by kernel_rfl) (by kernel_rfl) (by kernel_rfl)).trans (g18_0_eq k G σ h)
@[simp] def n16 (G : KT3 R) (v0 v4 v5 v6 : GV) (h : Heap) : Option R := n18 k (fun x v0 v4 v6 v26 h => kx x (n17 k G v0 v4 v6 v26 h) (G x v0 v4 v6 h)) v0 v4 v5 v6 h
theorem n16_eq (G : KT3 R) (σ : GS) (h : Heap) : KC k 48 c16 σ h (fun x σ h => G x (σ 0) (σ 4) (σ 6) h) = n16 k G (σ 0) (σ 4) (σ 5) (σ 6) h := (kseq (b := c17) rfl (fun σ h => n17_eq k G σ h)).trans (n18_eq k (fun x v0 v4 v6 v26 h => kx x (n17 k G v0 v4 v6 v26 h) (G x v0 v4 v6 h)) σ h)
@[simp] def n3 (G : KT1 R) (v0 v4 v5 v6 : GV) (h : Heap) : Option R := n16 k (fun x v0 v4 v6 h => kx x (n4 k G v0 v4 v6 h) (G x v4 h)) v0 v4 v5 v6 h
theorem n3_eq (G : KT1 R) (σ : GS) (h : Heap) : KC k 48 c3 σ h (fun x σ h => G x (σ 4) h) = n3 k G (σ 0) (σ 4) (σ 5) (σ 6) h := (kseq (b := c4) rfl (fun σ h => n4_eq k G σ h)).trans (n16_eq k (fun x v0 v4 v6 h => kx x (n4 k G v0 v4 v6 h) (G x v4 h)) σ h)
noncomputable def c19 : Code := cL c2
@[simp] def n2 (G : KT1 R) (v0 v1 v4 : GV) (h : Heap) : Option R := (klen v0).bind fun v14 => (kconvI .u64 v14).bind fun v15 => (kconvI .u64 v1).bind fun v17 => (kN NN fn.math_bits_Mul [v15, v17] h).bind fun v18 => (kxt 0 v18).bind fun v19 => (kxt 1 v18).bind fun v20 => n3 k G v0 v4 v19 v20 h
theorem n2_eq (G : KT1 R) (σ : GS) (h : Heap) : KC k 48 c2 σ h (fun x σ h => G x (σ 4) h) = n2 k G (σ 0) (σ 1) (σ 4) h := (kseq (a := c19) (b := c3) rfl (fun σ h => n3_eq k G σ h)).trans (by kernel_rfl)
noncomputable def c20 : Code := cL c1
@[simp] def n1 (G : KT1 R) (v0 v1 v4 : GV) (h : Heap) : Option R := (kbin .lss v1 (.int .i64 0)).bind fun v10 => kcond v10 (none) (n2 k G v0 v1 v4 h)
theorem n1_eq (G : KT1 R) (σ : GS) (h : Heap) : KC k 48 c1 σ h (fun x σ h => G x (σ 4) h) = n1 k G (σ 0) (σ 1) (σ 4) h := (kseq (a := c20) (b := c2) rfl (fun σ h => n2_eq k G σ h)).trans (by kernel_rfl)
noncomputable def c21 : Code := cL c0
@[simp] def n0 (G : KT1 R) (v0 v1 : GV) (h : Heap) : Option R := n1 k G v0 v1 .nils h
theorem n0_eq (G : KT1 R) (σ : GS) (h : Heap) : KC k 48 c0 σ h (fun x σ h => G x (σ 4) h) = n0 k G (σ 0) (σ 1) h := (kseq (a := c21) (b := c1) rfl (fun σ h => n1_eq k G σ h)).trans (by kernel_rfl)
def run {R : Type} (k : Nat) (a0 : GV) (a1 : GV) (h : Heap) (fin : GV → Heap → Option R) : Option R := n0 k (fun x v4 h => kend x (fin v4 h)) a0 a1 h
theorem run_eq {R : Type} (k : Nat) (a0 : GV) (a1 : GV) (h : Heap) (fin : GV → Heap → Option R) : kfun PP cfg NN HH k fn.slices_Repeat_impl_Cell [a0, a1] h fin = run k a0 a1 h fin := (kfun_eq (nt := 48) (c := c0) (show PP.funcs[fn.slices_Repeat_impl_Cell]? = some Try.f282 by kernel_rfl) (by kernel_rfl) (by kernel_rfl) (fun x σ h => by cases x <;> kernel_rfl)).trans (n0_eq k (fun x v4 h => kend x (fin v4 h)) _ h)
theorem gives {k : Nat} {a0 : GV} {a1 : GV} {b : Nat} {q : GV × List (List GV)} (e : run k a0 a1 [] (finO b) = some q) : OO fn.slices_Repeat_impl_Cell [a0, a1] b = some q := oω_of ((run_eq k a0 a1 [] (finO b)).trans e)
end S.slices_Repeat_impl_Cell
/-! impl_blank -/
namespace S.impl_blank
noncomputable def c0 : Code := bodyOf Try.f283
@[simp] def n0 {R : Type} (k : Nat) (G : KT1 R) (v0 : GV) (h : Heap) : Option R := kbox v0 h fun v1 h => kalloc [(.int .i64 0), (.int .i64 0), (.int .i64 0), (.bool false), (.bool false), (.bool false), (.int .i64 0)] h fun v2 h => (kloadA 5 h v1).bind fun v3 => (gfill (fun i => [(0, 1), (1, 5), (6, 1)][i]?) [(.int .i64 0), (.int .i64 0), (.int .i64 0), (.bool false), (.bool false), (.bool false), (.int .i64 0)] [(0, (.int .i64 32)), (1, v3)]).bind fun c => kagg c h fun v4 h => (kstore 7 h v2 v4).bind fun h => G .ret v2 h
theorem n0_eq (G : KT1 R) (σ : GS) (h : Heap) : KC k 5 c0 σ h (fun x σ h => G x (σ 2) h) = n0 k G (σ 0) h := by kernel_rfl
def run {R : Type} (k : Nat) (a0 : GV) (h : Heap) (fin : GV → Heap → Option R) : Option R := n0 k (fun x v2 h => kend x ((kloadA 7 h v2).bind fun w2 => fin w2 h)) a0 h
theorem run_eq {R : Type} (k : Nat) (a0 : GV) (h : Heap) (fin : GV → Heap → Option R) : kfun PP cfg NN HH k fn.impl_blank [a0] h fin = run k a0 h fin := (kfun_eq (nt := 5) (c := c0) (show PP.funcs[fn.impl_blank]? = some Try.f283 by kernel_rfl) (by kernel_rfl) (by kernel_rfl) (fun x σ h => by cases x <;> kernel_rfl)).trans (n0_eq k (fun x v2 h => kend x ((kloadA 7 h v2).bind fun w2 => fin w2 h)) _ h)
theorem gives {k : Nat} {a0 : GV} {v : GV} (e : run k a0 [] finN = some v) : NN fn.impl_blank [a0] = some v := nω_of (by kernel_rfl) ((run_eq k a0 [] finN).trans e)
end S.impl_blank
/-! slices_Clone_impl_Cell -/
namespace S.slices_Clone_impl_Cell
noncomputable def c0 : Code := bodyOf Try.f235
@[simp] def n0 {R : Type} (k : Nat) (G : KT1 R) (v0 : GV) (h : Heap) : Option R := (gbinop PP .eql 222 (.tmp 3) (.const (.slice none 0 0)) v0 .nils).bind fun v4 => kcond v4 (G .ret .nils h) ((kapp [(.int .i64 0), (.int .i64 0), (.int .i64 0), (.bool false), (.bool false), (.bool false), (.int .i64 0)] 7 40 .emp v0 h).bind fun r => kr r fun v7 h => G .ret v7 h)
theorem n0_eq (G : KT1 R) (σ : GS) (h : Heap) : KC k 8 c0 σ h (fun x σ h => G x (σ 2) h) = n0 k G (σ 0) h := by kernel_rfl
def run {R : Type} (k : Nat) (a0 : GV) (h : Heap) (fin : GV → Heap → Option R) : Option R := n0 k (fun x v2 h => kend x (fin v2 h)) a0 h
theorem run_eq {R : Type} (k : Nat) (a0 : GV) (h : Heap) (fin : GV → Heap → Option R) : kfun PP cfg NN HH k fn.slices_Clone_impl_Cell [a0] h fin = run k a0 h fin := (kfun_eq (nt := 8) (c := c0) (show PP.funcs[fn.slices_Clone_impl_Cell]? = some Try.f235 by kernel_rfl) (by kernel_rfl) (by kernel_rfl) (fun x σ h => by cases x <;> kernel_rfl)).trans (n0_eq k (fun x v2 h => kend x (fin v2 h)) _ h)
theorem gives {k : Nat} {a0 : GV} {b : Nat} {q : GV × List (List GV)} (e : run k a0 [] (finO b) = some q) : OO fn.slices_Clone_impl_Cell [a0] b = some q := oω_of ((run_eq k a0 [] (finO b)).trans e)
end S.slices_Clone_impl_Cell
/-! math_bits_Mul -/
namespace S.math_bits_Mul
noncomputable def c0 : Code := bodyOf Try.f289
@[simp] def n0 {R : Type} (k : Nat) (G : KT2 R) (v0 v1 : GV) (h : Heap) : Option R := kcond (.bool false) ((kconvI .u32 v0).bind fun v12 => (kconvI .u32 v1).bind fun v14 => (kN NN fn.math_bits_Mul32 [v12, v14] h).bind fun v15 => (kxt 0 v15).bind fun v16 => (kxt 1 v15).bind fun v17 => (kconvI .u64 v16).bind fun v19 => (kconvI .u64 v17).bind fun v21 => G .ret v19 v21 h) ((kN NN fn.math_bits_Mul64 [v0, v1] h).bind fun v25 => (kxt 0 v25).bind fun v26 => (kxt 1 v25).bind fun v27 => G .ret v26 v27 h)
theorem n0_eq (G : KT2 R) (σ : GS) (h : Heap) : KC k 30 c0 σ h (fun x σ h => G x (σ 4) (σ 5) h) = n0 k G (σ 0) (σ 1) h := by kernel_rfl
def run {R : Type} (k : Nat) (a0 : GV) (a1 : GV) (h : Heap) (fin : GV → Heap → Option R) : Option R := n0 k (fun x v4 v5 h => kend x (fin (.tup [v4, v5]) h)) a0 a1 h
theorem run_eq {R : Type} (k : Nat) (a0 : GV) (a1 : GV) (h : Heap) (fin : GV → Heap → Option R) : kfun PP cfg NN HH k fn.math_bits_Mul [a0, a1] h fin = run k a0 a1 h fin := (kfun_eq (nt := 30) (c := c0) (show PP.funcs[fn.math_bits_Mul]? = some Try.f289 by kernel_rfl) (by kernel_rfl) (by kernel_rfl) (fun x σ h => by cases x <;> kernel_rfl)).trans (n0_eq k (fun x v4 v5 h => kend x (fin (.tup [v4, v5]) h)) _ h)
theorem gives {k : Nat} {a0 : GV} {a1 : GV} {v : GV} (e : run k a0 a1 [] finN = some v) : NN fn.math_bits_Mul [a0, a1] = some v := nω_of (by kernel_rfl) ((run_eq k a0 a1 [] finN).trans e)
end S.math_bits_Mul
/-! math_bits_Mul64 -/
namespace S.math_bits_Mul64
noncomputable def c0 : Code := bodyOf Try.f291
@[simp] def n0 {R : Type} (k : Nat) (G : KT2 R) (v0 v1 : GV) (h : Heap) : Option R := (kbin .and v0 (.int .u64 4294967295)).bind fun v15 => (kbin .shr v0 (.int .u64 32)).bind fun v17 => (kbin .and v1 (.int .u64 4294967295)).bind fun v19 => (kbin .shr v1 (.int .u64 32)).bind fun v21 => (kbin .mul v15 v19).bind fun v24 => (kbin .mul v17 v19).bind fun v27 => (kbin .shr v24 (.int .u64 32)).bind fun v29 => (kbin .add v27 v29).bind fun v30 => (kbin .and v30 (.int .u64 4294967295)).bind fun v32 => (kbin .shr v30 (.int .u64 32)).bind fun v34 => (kbin .mul v15 v21).bind fun v38 => (kbin .add v32 v38).bind fun v39 => (kbin .mul v17 v21).bind fun v42 => (kbin .add v42 v34).bind fun v44 => (kbin .shr v39 (.int .u64 32)).bind fun v46 => (kbin .add v44 v46).bind fun v47 => (kbin .mul v0 v1).bind fun v50 => G .ret v47 v50 h
theorem n0_eq (G : KT2 R) (σ : GS) (h : Heap) : KC k 51 c0 σ h (fun x σ h => G x (σ 4) (σ 5) h) = n0 k G (σ 0) (σ 1) h := by kernel_rfl
def run {R : Type} (k : Nat) (a0 : GV) (a1 : GV) (h : Heap) (fin : GV → Heap → Option R) : Option R := n0 k (fun x v4 v5 h => kend x (fin (.tup [v4, v5]) h)) a0 a1 h
theorem run_eq {R : Type} (k : Nat) (a0 : GV) (a1 : GV) (h : Heap) (fin : GV → Heap → Option R) : kfun PP cfg NN HH k fn.math_bits_Mul64 [a0, a1] h fin = run k a0 a1 h fin := (kfun_eq (nt := 51) (c := c0) (show PP.funcs[fn.math_bits_Mul64]? = some Try.f291 by kernel_rfl) (by kernel_rfl) (by kernel_rfl) (fun x σ h => by cases x <;> kernel_rfl)).trans (n0_eq k (fun x v4 v5 h => kend x (fin (.tup [v4, v5]) h)) _ h)
theorem gives {k : Nat} {a0 : GV} {a1 : GV} {v : GV} (e : run k a0 a1 [] finN = some v) : NN fn.math_bits_Mul64 [a0, a1] = some v := nω_of (by kernel_rfl) ((run_eq k a0 a1 [] finN).trans e)
end S.math_bits_Mul64
/-! spec_Up -/
namespace S.spec_Up
noncomputable def c0 : Code := bodyOf Try.f85
@[simp] def n0 {R : Type} (k : Nat) (G : KT1 R) (v0 v1 v2 v3 v4 : GV) (h : Heap) : Option R := kbox v0 h fun v5 h => kbox v4 h fun v9 h => kalloc [(.int .i64 0), .nils] h fun v10 h => (kloadA 2 h v5).bind fun v12 => (kloadA 5 h v9).bind fun v16 => (kN NN fn.spec_l5Told [v12, v1, v2, v3, v16] h).bind fun v17 => (kun .not v17).bind fun v18 => kcond v18 ((gfill (fun i => [(0, 1), (1, 1)][i]?) [(.int .i64 0), .nils] []).bind fun c => kagg c h fun v19 h => (kstore 2 h v10 v19).bind fun h => G .ret v10 h) ((kloadA 2 h v5).bind fun v20 => (kF false HH fn.spec_l5Copy [v20] h).bind fun r => kr r fun v21 h => kalloc [(.int .i64 0), .nils] h fun v11 h => (kstore 2 h v11 v21).bind fun h => (kloadA 5 h v9).bind fun v25 => (HH fn.spec_l5Move [v11, v1, v2, v3, v25] h).bind fun r => kr r fun v26 h => (kloadA 2 h v11).bind fun v27 => (kstore 2 h v10 v27).bind fun h => G .ret v10 h)
theorem n0_eq (G : KT1 R) (σ : GS) (h : Heap) : KC k 28 c0 σ h (fun x σ h => G x (σ 10) h) = n0 k G (σ 0) (σ 1) (σ 2) (σ 3) (σ 4) h := by kernel_rfl
def run {R : Type} (k : Nat) (a0 : GV) (a1 : GV) (a2 : GV) (a3 : GV) (a4 : GV) (h : Heap) (fin : GV → Heap → Option R) : Option R := n0 k (fun x v10 h => kend x ((kloadA 2 h v10).bind fun w10 => fin w10 h)) a0 a1 a2 a3 a4 h
theorem run_eq {R : Type} (k : Nat) (a0 : GV) (a1 : GV) (a2 : GV) (a3 : GV) (a4 : GV) (h : Heap) (fin : GV → Heap → Option R) : kfun PP cfg NN HH k fn.spec_Up [a0, a1, a2, a3, a4] h fin = run k a0 a1 a2 a3 a4 h fin := (kfun_eq (nt := 28) (c := c0) (show PP.funcs[fn.spec_Up]? = some Try.f85 by kernel_rfl) (by kernel_rfl) (by kernel_rfl) (fun x σ h => by cases x <;> kernel_rfl)).trans (n0_eq k (fun x v10 h => kend x ((kloadA 2 h v10).bind fun w10 => fin w10 h)) _ h)
theorem gives {k : Nat} {a0 : GV} {a1 : GV} {a2 : GV} {a3 : GV} {a4 : GV} {v : GV} (e : run k a0 a1 a2 a3 a4 [] finN = some v) : NN fn.spec_Up [a0, a1, a2, a3, a4] = some v := nω_of (by kernel_rfl) ((run_eq k a0 a1 a2 a3 a4 [] finN).trans e)
end S.spec_Up
/-! spec_Down -/
namespace S.spec_Down
noncomputable def c0 : Code := bodyOf Try.f78
@[simp] def n0 {R : Type} (k : Nat) (G : KT1 R) (v0 v1 v2 v3 v4 : GV) (h : Heap) : Option R := kbox v0 h fun v5 h => kbox v4 h fun v9 h => kalloc [(.int .i64 0), .nils] h fun v10 h => (kloadA 2 h v5).bind fun v12 => (kloadA 5 h v9).bind fun v16 => (kN NN fn.spec_l5Told [v12, v1, v2, v3, v16] h).bind fun v17 => (kun .not v17).bind fun v18 => kcond v18 ((gfill (fun i => [(0, 1), (1, 1)][i]?) [(.int .i64 0), .nils] []).bind fun c => kagg c h fun v19 h => (kstore 2 h v10 v19).bind fun h => G .ret v10 h) ((kloadA 2 h v5).bind fun v20 => (kF false HH fn.spec_l5Copy [v20] h).bind fun r => kr r fun v21 h => kalloc [(.int .i64 0), .nils] h fun v11 h => (kstore 2 h v11 v21).bind fun h => (kun .neg v3).bind fun v25 => (kloadA 5 h v9).bind fun v26 => (HH fn.spec_l5Move [v11, v1, v2, v25, v26] h).bind fun r => kr r fun v27 h => (kloadA 2 h v11).bind fun v28 => (kstore 2 h v10 v28).bind fun h => G .ret v10 h)
theorem n0_eq (G : KT1 R) (σ : GS) (h : Heap) : KC k 29 c0 σ h (fun x σ h => G x (σ 10) h) = n0 k G (σ 0) (σ 1) (σ 2) (σ 3) (σ 4) h := by kernel_rfl
def run {R : Type} (k : Nat) (a0 : GV) (a1 : GV) (a2 : GV) (a3 : GV) (a4 : GV) (h : Heap) (fin : GV → Heap → Option R) : Option R := n0 k (fun x v10 h => kend x ((kloadA 2 h v10).bind fun w10 => fin w10 h)) a0 a1 a2 a3 a4 h
theorem run_eq {R : Type} (k : Nat) (a0 : GV) (a1 : GV) (a2 : GV) (a3 : GV) (a4 : GV) (h : Heap) (fin : GV → Heap → Option R) : kfun PP cfg NN HH k fn.spec_Down [a0, a1, a2, a3, a4] h fin = run k a0 a1 a2 a3 a4 h fin := (kfun_eq (nt := 29) (c := c0) (show PP.funcs[fn.spec_Down]? = some Try.f78 by kernel_rfl) (by kernel_rfl) (by kernel_rfl) (fun x σ h => by cases x <;> kernel_rfl)).trans (n0_eq k (fun x v10 h => kend x ((kloadA 2 h v10).bind fun w10 => fin w10 h)) _ h)
theorem gives {k : Nat} {a0 : GV} {a1 : GV} {a2 : GV} {a3 : GV} {a4 : GV} {v : GV} (e : run k a0 a1 a2 a3 a4 [] finN = some v) : NN fn.spec_Down [a0, a1, a2, a3, a4] = some v := nω_of (by kernel_rfl) ((run_eq k a0 a1 a2 a3 a4 [] finN).trans e)
end S.spec_Down
/-! spec_l5Copy -/
namespace S.spec_l5Copy
noncomputable def c0 : Code := bodyOf Try.f172
noncomputable def c1 : Code := cR c0
noncomputable def c2 : Code := cR c1
noncomputable def c3 : Code := cR c2
@[simp] def n3 {R : Type} (k : Nat) (G : KT1 R) (v2 v3 : GV) (h : Heap) : Option R := (kloadA 2 h v3).bind fun v27 => (kstore 2 h v2 v27).bind fun h => G .ret v2 h
theorem n3_eq (G : KT1 R) (σ : GS) (h : Heap) : KC k 28 c3 σ h (fun x σ h => G x (σ 2) h) = n3 k G (σ 2) (σ 3) h := by kernel_rfl
noncomputable def c4 : Code := cL c2
noncomputable def c5 : Code := cR c4
noncomputable def c6 : Code := cL c5
noncomputable def c7 : Code := cL c6
noncomputable def c8 : Code := cR c7
noncomputable def c9 : Code := cR c8
@[simp] def n9 {R : Type} (k : Nat) (G : KT4 R) (v1 v2 v3 v4 : GV) (h : Heap) : Option R := (kbin .add v4 (.int .i64 1)).bind fun v14 => G .nrm v1 v2 v3 v14 h
theorem n9_eq (G : KT4 R) (σ : GS) (h : Heap) : KC k 28 c9 σ h (fun x σ h => G x (σ 1) (σ 2) (σ 3) (σ 4) h) = n9 k G (σ 1) (σ 2) (σ 3) (σ 4) h := by kernel_rfl
noncomputable def c10 : Code := cL c8
noncomputable def c11 : Code := cL c10
noncomputable def o11 : Array Oper := cO c11
@[simp] def g11_0 {R : Type} (k : Nat) (G : KT4 R) (v1 v2 v3 v4 : GV) (rs : List Rec) (h : Heap) : Option R := (kfa 1 v3).bind fun v15 => kold h fun h0 => (kload1 h v15).bind fun v16 => krs (rs ++ [⟨1, h0.length, h.length, ⟨kblk v15, []⟩⟩]) fun rs => kold h fun h0 => krs (rs ++ [⟨2, h0.length, h.length, ⟨[], []⟩⟩]) fun rs => (kfa 1 v1).bind fun v18 => kold h fun h0 => (kload1 h v18).bind fun v19 => krs (rs ++ [⟨4, h0.length, h.length, ⟨kblk v18, []⟩⟩]) fun rs => (kia 1 v19 v4).bind fun v21 => kold h fun h0 => (kload1 h v21).bind fun v22 => krs (rs ++ [⟨7, h0.length, h.length, ⟨kblk v21, []⟩⟩]) fun rs => kold h fun h0 => (kapp [(.int .i64 0), (.int .i64 0), (.int .i64 0), (.bool false), (.bool false), (.bool false), (.int .i64 0)] 7 40 .emp v22 h).bind fun r => kr r fun v23 h => krs (rs ++ [⟨8, h0.length, h.length, ⟨kblk .emp ++ kblk v22, kblk .emp⟩⟩]) fun rs => (gfill (fun i => some (i * 1, 1)) (zeros [.nils] 1) [(0, v23)]).bind fun c => kbs 1 1 c h fun v24 h => (kapp [.nils] 1 24 v16 v24 h).bind fun r => kr r fun v25 h => (kfa 1 v3).bind fun v26 => (kstore 1 h v26 v25).bind fun h => bif chk [(1, 8), (2, 4), (2, 7)] rs then G .nrm v1 v2 v3 v4 h else none
theorem g11_0_eq (G : KT4 R) (rs : List Rec) (σ : GS) (h : Heap) : kgroupsD PP cfg NN HH 28 o11 [(1, 8), (2, 4), (2, 7)] [(none, [0, 1, 2, 3, 4, 5, 6, 7, 8, 9, 10, 11, 12])] rs σ h (fun rs σ h => bif chk [(1, 8), (2, 4), (2, 7)] rs then G .nrm (σ 1) (σ 2) (σ 3) (σ 4) h else none) = g11_0 k G (σ 1) (σ 2) (σ 3) (σ 4) rs h := by kernel_rfl
@[simp] def n11 (G : KT4 R) (v1 v2 v3 v4 : GV) (h : Heap) : Option R := g11_0 k G v1 v2 v3 v4 [] h
theorem n11_eq (G : KT4 R) (σ : GS) (h : Heap) : KC k 28 c11 σ h (fun x σ h => G x (σ 1) (σ 2) (σ 3) (σ 4) h) = n11 k G (σ 1) (σ 2) (σ 3) (σ 4) h := (kregionD_eq (id := 5) (draw := true) (ops := o11) (gs := [(none, [0, 1, 2, 3, 4, 5, 6, 7, 8, 9, 10, 11, 12])]) (bad := [(1, 8), (2, 4), (2, 7)]) (by kernel_rfl) (by kernel_rfl) (by kernel_rfl) (by kernel_rfl) (by kernel_rfl)).trans (g11_0_eq k G [] σ h)
@[simp] def n10 (G : KT4 R) (v1 v2 v3 v4 : GV) (h : Heap) : Option R := n11 k (fun x v1 v2 v3 v4 h => kb 1 x fun x => G x v1 v2 v3 v4 h) v1 v2 v3 v4 h
theorem n10_eq (G : KT4 R) (σ : GS) (h : Heap) : KC k 28 c10 σ h (fun x σ h => G x (σ 1) (σ 2) (σ 3) (σ 4) h) = n10 k G (σ 1) (σ 2) (σ 3) (σ 4) h := (kblock_eq (a := c11) rfl).trans (n11_eq k (fun x v1 v2 v3 v4 h => kb 1 x fun x => G x v1 v2 v3 v4 h) σ h)
@[simp] def n8 (G : KT4 R) (v1 v2 v3 v4 : GV) (h : Heap) : Option R := n10 k (fun x v1 v2 v3 v4 h => kx x (n9 k G v1 v2 v3 v4 h) (G x v1 v2 v3 v4 h)) v1 v2 v3 v4 h
theorem n8_eq (G : KT4 R) (σ : GS) (h : Heap) : KC k 28 c8 σ h (fun x σ h => G x (σ 1) (σ 2) (σ 3) (σ 4) h) = n8 k G (σ 1) (σ 2) (σ 3) (σ 4) h := (kseq (b := c9) rfl (fun σ h => n9_eq k G σ h)).trans (n10_eq k (fun x v1 v2 v3 v4 h => kx x (n9 k G v1 v2 v3 v4 h) (G x v1 v2 v3 v4 h)) σ h)
noncomputable def c12 : Code := cL c7
@[simp] def n7 (G : KT4 R) (v1 v2 v3 v4 : GV) (h : Heap) : Option R := (kfa 1 v1).bind fun v9 => (kload1 h v9).bind fun v10 => (klen v10).bind fun v11 => (kbin .lss v4 v11).bind fun v12 => kcond v12 (n8 k G v1 v2 v3 v4 h) (G (.ext 0) v1 v2 v3 v4 h)
theorem n7_eq (G : KT4 R) (σ : GS) (h : Heap) : KC k 28 c7 σ h (fun x σ h => G x (σ 1) (σ 2) (σ 3) (σ 4) h) = n7 k G (σ 1) (σ 2) (σ 3) (σ 4) h := (kseq (a := c12) (b := c8) rfl (fun σ h => n8_eq k G σ h)).trans (by kernel_rfl)
def l6 {R : Type} (k : Nat) (G : KT2 R) : Nat → GV → GV → GV → GV → Heap → Option R
  | 0, _, _, _, _, _ => none
  | r + 1, v1, v2, v3, v4, h => n7 k (fun x v1 v2 v3 v4 h => kx x (l6 k G r v1 v2 v3 v4 h) (G x v2 v3 h)) v1 v2 v3 v4 h
theorem l6_eq {R : Type} (k : Nat) (G : KT2 R) : ∀ (r : Nat) (σ : GS) (h : Heap), kloop (fun σ h K => KC k 28 c7 σ h K) r σ h (fun x σ h => G x (σ 2) (σ 3) h) = l6 k G r (σ 1) (σ 2) (σ 3) (σ 4) h
  | 0, _, _ => rfl
  | r + 1, σ, h => (kloop_eq (fun σ h => l6_eq k G r σ h)).trans (n7_eq k (fun x v1 v2 v3 v4 h => kx x (l6 k G r v1 v2 v3 v4 h) (G x v2 v3 h)) σ h)
@[simp] def n6 (G : KT2 R) (v1 v2 v3 v4 : GV) (h : Heap) : Option R := l6 k G k v1 v2 v3 v4 h
theorem n6_eq (G : KT2 R) (σ : GS) (h : Heap) : KC k 28 c6 σ h (fun x σ h => G x (σ 2) (σ 3) h) = n6 k G (σ 1) (σ 2) (σ 3) (σ 4) h := (kloopc_eq (a := c7) rfl).trans (l6_eq k G k σ h)
@[simp] def n5 (G : KT2 R) (v1 v2 v3 v4 : GV) (h : Heap) : Option R := n6 k (fun x v2 v3 h => kb 0 x fun x => G x v2 v3 h) v1 v2 v3 v4 h
theorem n5_eq (G : KT2 R) (σ : GS) (h : Heap) : KC k 28 c5 σ h (fun x σ h => G x (σ 2) (σ 3) h) = n5 k G (σ 1) (σ 2) (σ 3) (σ 4) h := (kblock_eq (a := c6) rfl).trans (n6_eq k (fun x v2 v3 h => kb 0 x fun x => G x v2 v3 h) σ h)
noncomputable def c13 : Code := cL c4
@[simp] def n4 (G : KT2 R) (v1 v2 v3 : GV) (h : Heap) : Option R := n5 k G v1 v2 v3 (.int .i64 0) h
theorem n4_eq (G : KT2 R) (σ : GS) (h : Heap) : KC k 28 c4 σ h (fun x σ h => G x (σ 2) (σ 3) h) = n4 k G (σ 1) (σ 2) (σ 3) h := (kseq (a := c13) (b := c5) rfl (fun σ h => n5_eq k G σ h)).trans (by kernel_rfl)
@[simp] def n2 (G : KT1 R) (v1 v2 v3 : GV) (h : Heap) : Option R := n4 k (fun x v2 v3 h => kx x (n3 k G v2 v3 h) (G x v2 h)) v1 v2 v3 h
theorem n2_eq (G : KT1 R) (σ : GS) (h : Heap) : KC k 28 c2 σ h (fun x σ h => G x (σ 2) h) = n2 k G (σ 1) (σ 2) (σ 3) h := (kseq (b := c3) rfl (fun σ h => n3_eq k G σ h)).trans (n4_eq k (fun x v2 v3 h => kx x (n3 k G v2 v3 h) (G x v2 h)) σ h)
noncomputable def c14 : Code := cL c1
@[simp] def n1 (G : KT1 R) (v1 v2 : GV) (h : Heap) : Option R := (kfa 0 v1).bind fun v5 => (kload1 h v5).bind fun v6 => (gfill (fun i => [(0, 1), (1, 1)][i]?) [(.int .i64 0), .nils] [(0, v6)]).bind fun c => kagg c h fun v7 h => kalloc [(.int .i64 0), .nils] h fun v3 h => (kstore 2 h v3 v7).bind fun h => n2 k G v1 v2 v3 h
theorem n1_eq (G : KT1 R) (σ : GS) (h : Heap) : KC k 28 c1 σ h (fun x σ h => G x (σ 2) h) = n1 k G (σ 1) (σ 2) h := (kseq (a := c14) (b := c2) rfl (fun σ h => n2_eq k G σ h)).trans (by kernel_rfl)
noncomputable def c15 : Code := cL c0
@[simp] def n0 (G : KT1 R) (v0 : GV) (h : Heap) : Option R := kbox v0 h fun v1 h => kalloc [(.int .i64 0), .nils] h fun v2 h => n1 k G v1 v2 h
theorem n0_eq (G : KT1 R) (σ : GS) (h : Heap) : KC k 28 c0 σ h (fun x σ h => G x (σ 2) h) = n0 k G (σ 0) h := (kseq (a := c15) (b := c1) rfl (fun σ h => n1_eq k G σ h)).trans (by kernel_rfl)
def run {R : Type} (k : Nat) (a0 : GV) (h : Heap) (fin : GV → Heap → Option R) : Option R := n0 k (fun x v2 h => kend x ((kloadA 2 h v2).bind fun w2 => fin w2 h)) a0 h
theorem run_eq {R : Type} (k : Nat) (a0 : GV) (h : Heap) (fin : GV → Heap → Option R) : kfun PP cfg NN HH k fn.spec_l5Copy [a0] h fin = run k a0 h fin := (kfun_eq (nt := 28) (c := c0) (show PP.funcs[fn.spec_l5Copy]? = some Try.f172 by kernel_rfl) (by kernel_rfl) (by kernel_rfl) (fun x σ h => by cases x <;> kernel_rfl)).trans (n0_eq k (fun x v2 h => kend x ((kloadA 2 h v2).bind fun w2 => fin w2 h)) _ h)
theorem gives {k : Nat} {a0 : GV} {b : Nat} {q : GV × List (List GV)} (e : run k a0 [] (finO b) = some q) : OO fn.spec_l5Copy [a0] b = some q := oω_of ((run_eq k a0 [] (finO b)).trans e)
end S.spec_l5Copy
/-! spec_l5Move -/
namespace S.spec_l5Move
noncomputable def c0 : Code := bodyOf Try.f173
noncomputable def c1 : Code := cR c0
noncomputable def c2 : Code := cR c1
noncomputable def c3 : Code := cR c2
noncomputable def c4 : Code := cR c3
noncomputable def c5 : Code := cL c4
noncomputable def c6 : Code := cL c5
noncomputable def c7 : Code := cR c6
noncomputable def c8 : Code := cR c7
@[simp] def n8 {R : Type} (k : Nat) (G : KT5 R) (v0 v1 v2 v10 v12 : GV) (h : Heap) : Option R := (kbin .add v12 (.int .i64 1)).bind fun v52 => G .nrm v0 v1 v2 v10 v52 h
theorem n8_eq (G : KT5 R) (σ : GS) (h : Heap) : KC k 65 c8 σ h (fun x σ h => G x (σ 0) (σ 1) (σ 2) (σ 10) (σ 12) h) = n8 k G (σ 0) (σ 1) (σ 2) (σ 10) (σ 12) h := by kernel_rfl
noncomputable def c9 : Code := cL c7
noncomputable def c10 : Code := cL c9
@[simp] def n10 {R : Type} (k : Nat) (G : KT5 R) (v0 v1 v2 v10 v12 : GV) (h : Heap) : Option R := (knil v0).bind fun v54 => (kfa 1 v54).bind fun v55 => (kload1 h v55).bind fun v56 => (kbin .sub v12 v1).bind fun v61 => (kia 1 v10 v61).bind fun v62 => (kload1 h v62).bind fun v63 => (kia 1 v56 v12).bind fun v64 => (kstore 1 h v64 v63).bind fun h => G .nrm v0 v1 v2 v10 v12 h
theorem n10_eq (G : KT5 R) (σ : GS) (h : Heap) : KC k 65 c10 σ h (fun x σ h => G x (σ 0) (σ 1) (σ 2) (σ 10) (σ 12) h) = n10 k G (σ 0) (σ 1) (σ 2) (σ 10) (σ 12) h := by kernel_rfl
@[simp] def n9 (G : KT5 R) (v0 v1 v2 v10 v12 : GV) (h : Heap) : Option R := n10 k (fun x v0 v1 v2 v10 v12 h => kb 3 x fun x => G x v0 v1 v2 v10 v12 h) v0 v1 v2 v10 v12 h
theorem n9_eq (G : KT5 R) (σ : GS) (h : Heap) : KC k 65 c9 σ h (fun x σ h => G x (σ 0) (σ 1) (σ 2) (σ 10) (σ 12) h) = n9 k G (σ 0) (σ 1) (σ 2) (σ 10) (σ 12) h := (kblock_eq (a := c10) rfl).trans (n10_eq k (fun x v0 v1 v2 v10 v12 h => kb 3 x fun x => G x v0 v1 v2 v10 v12 h) σ h)
@[simp] def n7 (G : KT5 R) (v0 v1 v2 v10 v12 : GV) (h : Heap) : Option R := n9 k (fun x v0 v1 v2 v10 v12 h => kx x (n8 k G v0 v1 v2 v10 v12 h) (G x v0 v1 v2 v10 v12 h)) v0 v1 v2 v10 v12 h
theorem n7_eq (G : KT5 R) (σ : GS) (h : Heap) : KC k 65 c7 σ h (fun x σ h => G x (σ 0) (σ 1) (σ 2) (σ 10) (σ 12) h) = n7 k G (σ 0) (σ 1) (σ 2) (σ 10) (σ 12) h := (kseq (b := c8) rfl (fun σ h => n8_eq k G σ h)).trans (n9_eq k (fun x v0 v1 v2 v10 v12 h => kx x (n8 k G v0 v1 v2 v10 v12 h) (G x v0 v1 v2 v10 v12 h)) σ h)
noncomputable def c11 : Code := cL c6
@[simp] def n6 (G : KT5 R) (v0 v1 v2 v10 v12 : GV) (h : Heap) : Option R := (kbin .leq v12 v2).bind fun v50 => kcond v50 (n7 k G v0 v1 v2 v10 v12 h) (G (.ext 2) v0 v1 v2 v10 v12 h)
theorem n6_eq (G : KT5 R) (σ : GS) (h : Heap) : KC k 65 c6 σ h (fun x σ h => G x (σ 0) (σ 1) (σ 2) (σ 10) (σ 12) h) = n6 k G (σ 0) (σ 1) (σ 2) (σ 10) (σ 12) h := (kseq (a := c11) (b := c7) rfl (fun σ h => n7_eq k G σ h)).trans (by kernel_rfl)
def l5 {R : Type} (k : Nat) (G : KT0 R) : Nat → GV → GV → GV → GV → GV → Heap → Option R
  | 0, _, _, _, _, _, _ => none
  | r + 1, v0, v1, v2, v10, v12, h => n6 k (fun x v0 v1 v2 v10 v12 h => kx x (l5 k G r v0 v1 v2 v10 v12 h) (G x h)) v0 v1 v2 v10 v12 h
theorem l5_eq {R : Type} (k : Nat) (G : KT0 R) : ∀ (r : Nat) (σ : GS) (h : Heap), kloop (fun σ h K => KC k 65 c6 σ h K) r σ h (fun x σ h => G x h) = l5 k G r (σ 0) (σ 1) (σ 2) (σ 10) (σ 12) h
  | 0, _, _ => rfl
  | r + 1, σ, h => (kloop_eq (fun σ h => l5_eq k G r σ h)).trans (n6_eq k (fun x v0 v1 v2 v10 v12 h => kx x (l5 k G r v0 v1 v2 v10 v12 h) (G x h)) σ h)
@[simp] def n5 (G : KT0 R) (v0 v1 v2 v10 v12 : GV) (h : Heap) : Option R := l5 k G k v0 v1 v2 v10 v12 h
theorem n5_eq (G : KT0 R) (σ : GS) (h : Heap) : KC k 65 c5 σ h (fun x σ h => G x h) = n5 k G (σ 0) (σ 1) (σ 2) (σ 10) (σ 12) h := (kloopc_eq (a := c6) rfl).trans (l5_eq k G k σ h)
@[simp] def n4 (G : KT0 R) (v0 v1 v2 v10 v12 : GV) (h : Heap) : Option R := n5 k (fun x h => kb 2 x fun x => G x h) v0 v1 v2 v10 v12 h
theorem n4_eq (G : KT0 R) (σ : GS) (h : Heap) : KC k 65 c4 σ h (fun x σ h => G x h) = n4 k G (σ 0) (σ 1) (σ 2) (σ 10) (σ 12) h := (kblock_eq (a := c5) rfl).trans (n5_eq k (fun x h => kb 2 x fun x => G x h) σ h)
noncomputable def c12 : Code := cL c3
@[simp] def n3 (G : KT0 R) (v0 v1 v2 v10 : GV) (h : Heap) : Option R := n4 k G v0 v1 v2 v10 v1 h
theorem n3_eq (G : KT0 R) (σ : GS) (h : Heap) : KC k 65 c3 σ h (fun x σ h => G x h) = n3 k G (σ 0) (σ 1) (σ 2) (σ 10) h := (kseq (a := c12) (b := c4) rfl (fun σ h => n4_eq k G σ h)).trans (by kernel_rfl)
noncomputable def c13 : Code := cL c2
noncomputable def c14 : Code := cR c13
noncomputable def c15 : Code := cL c14
noncomputable def c16 : Code := cL c15
noncomputable def c17 : Code := cR c16
noncomputable def c18 : Code := cR c17
@[simp] def n18 {R : Type} (k : Nat) (G : KT7 R) (v0 v1 v2 v3 v9 v10 v11 : GV) (h : Heap) : Option R := (kbin .add v11 (.int .i64 1)).bind fun v19 => G .nrm v0 v1 v2 v3 v9 v10 v19 h
theorem n18_eq (G : KT7 R) (σ : GS) (h : Heap) : KC k 65 c18 σ h (fun x σ h => G x (σ 0) (σ 1) (σ 2) (σ 3) (σ 9) (σ 10) (σ 11) h) = n18 k G (σ 0) (σ 1) (σ 2) (σ 3) (σ 9) (σ 10) (σ 11) h := by kernel_rfl
noncomputable def c19 : Code := cL c17
noncomputable def c20 : Code := cL c19
@[simp] def n20 {R : Type} (k : Nat) (G : KT7 R) (v0 v1 v2 v3 v9 v10 v11 : GV) (h : Heap) : Option R := (kbin .add v11 v3).bind fun v22 => (kN NN fn.spec_l1In [v22, v1, v2] h).bind fun v25 => kcond v25 ((knil v0).bind fun v28 => (kfa 1 v28).bind fun v29 => (kload1 h v29).bind fun v30 => (kbin .add v11 v3).bind fun v33 => (kia 1 v30 v33).bind fun v34 => (kload1 h v34).bind fun v35 => (gfill (fun i => some (i * 1, 1)) (zeros [.nils] 1) [(0, v35)]).bind fun c => kbs 1 1 c h fun v36 h => (kapp [.nils] 1 24 v10 v36 h).bind fun r => kr r fun v37 h => G .nrm v0 v1 v2 v3 v9 v37 v11 h) ((knil v0).bind fun v40 => (kfa 0 v40).bind fun v41 => (kload1 h v41).bind fun v42 => (kloadA 5 h v9).bind fun v43 => (kF false HH fn.spec_l4Row [v42, v43] h).bind fun r => kr r fun v44 h => (gfill (fun i => some (i * 1, 1)) (zeros [.nils] 1) [(0, v44)]).bind fun c => kbs 1 1 c h fun v45 h => (kapp [.nils] 1 24 v10 v45 h).bind fun r => kr r fun v46 h => G .nrm v0 v1 v2 v3 v9 v46 v11 h)
theorem n20_eq (G : KT7 R) (σ : GS) (h : Heap) : KC k 65 c20 σ h (fun x σ h => G x (σ 0) (σ 1) (σ 2) (σ 3) (σ 9) (σ 10) (σ 11) h) = n20 k G (σ 0) (σ 1) (σ 2) (σ 3) (σ 9) (σ 10) (σ 11) h := by kernel_rfl
@[simp] def n19 (G : KT7 R) (v0 v1 v2 v3 v9 v10 v11 : GV) (h : Heap) : Option R := n20 k (fun x v0 v1 v2 v3 v9 v10 v11 h => kb 1 x fun x => G x v0 v1 v2 v3 v9 v10 v11 h) v0 v1 v2 v3 v9 v10 v11 h
theorem n19_eq (G : KT7 R) (σ : GS) (h : Heap) : KC k 65 c19 σ h (fun x σ h => G x (σ 0) (σ 1) (σ 2) (σ 3) (σ 9) (σ 10) (σ 11) h) = n19 k G (σ 0) (σ 1) (σ 2) (σ 3) (σ 9) (σ 10) (σ 11) h := (kblock_eq (a := c20) rfl).trans (n20_eq k (fun x v0 v1 v2 v3 v9 v10 v11 h => kb 1 x fun x => G x v0 v1 v2 v3 v9 v10 v11 h) σ h)
@[simp] def n17 (G : KT7 R) (v0 v1 v2 v3 v9 v10 v11 : GV) (h : Heap) : Option R := n19 k (fun x v0 v1 v2 v3 v9 v10 v11 h => kx x (n18 k G v0 v1 v2 v3 v9 v10 v11 h) (G x v0 v1 v2 v3 v9 v10 v11 h)) v0 v1 v2 v3 v9 v10 v11 h
theorem n17_eq (G : KT7 R) (σ : GS) (h : Heap) : KC k 65 c17 σ h (fun x σ h => G x (σ 0) (σ 1) (σ 2) (σ 3) (σ 9) (σ 10) (σ 11) h) = n17 k G (σ 0) (σ 1) (σ 2) (σ 3) (σ 9) (σ 10) (σ 11) h := (kseq (b := c18) rfl (fun σ h => n18_eq k G σ h)).trans (n19_eq k (fun x v0 v1 v2 v3 v9 v10 v11 h => kx x (n18 k G v0 v1 v2 v3 v9 v10 v11 h) (G x v0 v1 v2 v3 v9 v10 v11 h)) σ h)
noncomputable def c21 : Code := cL c16
@[simp] def n16 (G : KT7 R) (v0 v1 v2 v3 v9 v10 v11 : GV) (h : Heap) : Option R := (kbin .leq v11 v2).bind fun v17 => kcond v17 (n17 k G v0 v1 v2 v3 v9 v10 v11 h) (G (.ext 0) v0 v1 v2 v3 v9 v10 v11 h)
theorem n16_eq (G : KT7 R) (σ : GS) (h : Heap) : KC k 65 c16 σ h (fun x σ h => G x (σ 0) (σ 1) (σ 2) (σ 3) (σ 9) (σ 10) (σ 11) h) = n16 k G (σ 0) (σ 1) (σ 2) (σ 3) (σ 9) (σ 10) (σ 11) h := (kseq (a := c21) (b := c17) rfl (fun σ h => n17_eq k G σ h)).trans (by kernel_rfl)
def l15 {R : Type} (k : Nat) (G : KT4 R) : Nat → GV → GV → GV → GV → GV → GV → GV → Heap → Option R
  | 0, _, _, _, _, _, _, _, _ => none
  | r + 1, v0, v1, v2, v3, v9, v10, v11, h => n16 k (fun x v0 v1 v2 v3 v9 v10 v11 h => kx x (l15 k G r v0 v1 v2 v3 v9 v10 v11 h) (G x v0 v1 v2 v10 h)) v0 v1 v2 v3 v9 v10 v11 h
theorem l15_eq {R : Type} (k : Nat) (G : KT4 R) : ∀ (r : Nat) (σ : GS) (h : Heap), kloop (fun σ h K => KC k 65 c16 σ h K) r σ h (fun x σ h => G x (σ 0) (σ 1) (σ 2) (σ 10) h) = l15 k G r (σ 0) (σ 1) (σ 2) (σ 3) (σ 9) (σ 10) (σ 11) h
  | 0, _, _ => rfl
  | r + 1, σ, h => (kloop_eq (fun σ h => l15_eq k G r σ h)).trans (n16_eq k (fun x v0 v1 v2 v3 v9 v10 v11 h => kx x (l15 k G r v0 v1 v2 v3 v9 v10 v11 h) (G x v0 v1 v2 v10 h)) σ h)
@[simp] def n15 (G : KT4 R) (v0 v1 v2 v3 v9 v10 v11 : GV) (h : Heap) : Option R := l15 k G k v0 v1 v2 v3 v9 v10 v11 h
theorem n15_eq (G : KT4 R) (σ : GS) (h : Heap) : KC k 65 c15 σ h (fun x σ h => G x (σ 0) (σ 1) (σ 2) (σ 10) h) = n15 k G (σ 0) (σ 1) (σ 2) (σ 3) (σ 9) (σ 10) (σ 11) h := (kloopc_eq (a := c16) rfl).trans (l15_eq k G k σ h)
@[simp] def n14 (G : KT4 R) (v0 v1 v2 v3 v9 v10 v11 : GV) (h : Heap) : Option R := n15 k (fun x v0 v1 v2 v10 h => kb 0 x fun x => G x v0 v1 v2 v10 h) v0 v1 v2 v3 v9 v10 v11 h
theorem n14_eq (G : KT4 R) (σ : GS) (h : Heap) : KC k 65 c14 σ h (fun x σ h => G x (σ 0) (σ 1) (σ 2) (σ 10) h) = n14 k G (σ 0) (σ 1) (σ 2) (σ 3) (σ 9) (σ 10) (σ 11) h := (kblock_eq (a := c15) rfl).trans (n15_eq k (fun x v0 v1 v2 v10 h => kb 0 x fun x => G x v0 v1 v2 v10 h) σ h)
noncomputable def c22 : Code := cL c13
@[simp] def n13 (G : KT4 R) (v0 v1 v2 v3 v9 v10 : GV) (h : Heap) : Option R := n14 k G v0 v1 v2 v3 v9 v10 v1 h
theorem n13_eq (G : KT4 R) (σ : GS) (h : Heap) : KC k 65 c13 σ h (fun x σ h => G x (σ 0) (σ 1) (σ 2) (σ 10) h) = n13 k G (σ 0) (σ 1) (σ 2) (σ 3) (σ 9) (σ 10) h := (kseq (a := c22) (b := c14) rfl (fun σ h => n14_eq k G σ h)).trans (by kernel_rfl)
@[simp] def n2 (G : KT0 R) (v0 v1 v2 v3 v9 v10 : GV) (h : Heap) : Option R := n13 k (fun x v0 v1 v2 v10 h => kx x (n3 k G v0 v1 v2 v10 h) (G x h)) v0 v1 v2 v3 v9 v10 h
theorem n2_eq (G : KT0 R) (σ : GS) (h : Heap) : KC k 65 c2 σ h (fun x σ h => G x h) = n2 k G (σ 0) (σ 1) (σ 2) (σ 3) (σ 9) (σ 10) h := (kseq (b := c3) rfl (fun σ h => n3_eq k G σ h)).trans (n13_eq k (fun x v0 v1 v2 v10 h => kx x (n3 k G v0 v1 v2 v10 h) (G x h)) σ h)
noncomputable def c23 : Code := cL c1
@[simp] def n1 (G : KT0 R) (v0 v1 v2 v3 v9 : GV) (h : Heap) : Option R := n2 k G v0 v1 v2 v3 v9 .emp h
theorem n1_eq (G : KT0 R) (σ : GS) (h : Heap) : KC k 65 c1 σ h (fun x σ h => G x h) = n1 k G (σ 0) (σ 1) (σ 2) (σ 3) (σ 9) h := (kseq (a := c23) (b := c2) rfl (fun σ h => n2_eq k G σ h)).trans (by kernel_rfl)
noncomputable def c24 : Code := cL c0
@[simp] def n0 (G : KT0 R) (v0 v1 v2 v3 v4 : GV) (h : Heap) : Option R := kbox v4 h fun v9 h => n1 k G v0 v1 v2 v3 v9 h
theorem n0_eq (G : KT0 R) (σ : GS) (h : Heap) : KC k 65 c0 σ h (fun x σ h => G x h) = n0 k G (σ 0) (σ 1) (σ 2) (σ 3) (σ 4) h := (kseq (a := c24) (b := c1) rfl (fun σ h => n1_eq k G σ h)).trans (by kernel_rfl)
def run {R : Type} (k : Nat) (a0 : GV) (a1 : GV) (a2 : GV) (a3 : GV) (a4 : GV) (h : Heap) (fin : GV → Heap → Option R) : Option R := n0 k (fun x h => kend x (fin (.tup []) h)) a0 a1 a2 a3 a4 h
theorem run_eq {R : Type} (k : Nat) (a0 : GV) (a1 : GV) (a2 : GV) (a3 : GV) (a4 : GV) (h : Heap) (fin : GV → Heap → Option R) : kfun PP cfg NN HH k fn.spec_l5Move [a0, a1, a2, a3, a4] h fin = run k a0 a1 a2 a3 a4 h fin := (kfun_eq (nt := 65) (c := c0) (show PP.funcs[fn.spec_l5Move]? = some Try.f173 by kernel_rfl) (by kernel_rfl) (by kernel_rfl) (fun x σ h => by cases x <;> kernel_rfl)).trans (n0_eq k (fun x h => kend x (fin (.tup []) h)) _ h)
theorem gives {k : Nat} {a0 : GV} {a1 : GV} {a2 : GV} {a3 : GV} {a4 : GV} {h : Heap} {r : GV × Heap} (e : run k a0 a1 a2 a3 a4 h finH = some r) : HH fn.spec_l5Move [a0, a1, a2, a3, a4] h = some r := kω_of ((run_eq k a0 a1 a2 a3 a4 h finH).trans e)
end S.spec_l5Move
/-! spec_l4Row -/
namespace S.spec_l4Row
noncomputable def c0 : Code := bodyOf Try.f230
noncomputable def c1 : Code := cR c0
noncomputable def c2 : Code := cR c1
noncomputable def c3 : Code := cR c2
@[simp] def n3 {R : Type} (k : Nat) (G : KT1 R) (v5 : GV) (h : Heap) : Option R := G .ret v5 h
theorem n3_eq (G : KT1 R) (σ : GS) (h : Heap) : KC k 19 c3 σ h (fun x σ h => G x (σ 4) h) = n3 k G (σ 5) h := by kernel_rfl
noncomputable def c4 : Code := cL c2
noncomputable def c5 : Code := cR c4
noncomputable def c6 : Code := cL c5
noncomputable def c7 : Code := cL c6
noncomputable def c8 : Code := cR c7
noncomputable def c9 : Code := cR c8
@[simp] def n9 {R : Type} (k : Nat) (G : KT5 R) (v0 v3 v4 v5 v6 : GV) (h : Heap) : Option R := (kbin .add v6 (.int .i64 1)).bind fun v12 => G .nrm v0 v3 v4 v5 v12 h
theorem n9_eq (G : KT5 R) (σ : GS) (h : Heap) : KC k 19 c9 σ h (fun x σ h => G x (σ 0) (σ 3) (σ 4) (σ 5) (σ 6) h) = n9 k G (σ 0) (σ 3) (σ 4) (σ 5) (σ 6) h := by kernel_rfl
noncomputable def c10 : Code := cL c8
noncomputable def c11 : Code := cL c10
@[simp] def n11 {R : Type} (k : Nat) (G : KT5 R) (v0 v3 v4 v5 v6 : GV) (h : Heap) : Option R := (kloadA 5 h v3).bind fun v14 => (kN NN fn.spec_l4Blank [v14] h).bind fun v15 => (gfill (fun i => some (i * 7, 7)) (zeros [(.int .i64 0), (.int .i64 0), (.int .i64 0), (.bool false), (.bool false), (.bool false), (.int .i64 0)] 1) [(0, v15)]).bind fun c => kbs 1 7 c h fun v16 h => (kapp [(.int .i64 0), (.int .i64 0), (.int .i64 0), (.bool false), (.bool false), (.bool false), (.int .i64 0)] 7 40 v5 v16 h).bind fun r => kr r fun v17 h => G .nrm v0 v3 v4 v17 v6 h
theorem n11_eq (G : KT5 R) (σ : GS) (h : Heap) : KC k 19 c11 σ h (fun x σ h => G x (σ 0) (σ 3) (σ 4) (σ 5) (σ 6) h) = n11 k G (σ 0) (σ 3) (σ 4) (σ 5) (σ 6) h := by kernel_rfl
@[simp] def n10 (G : KT5 R) (v0 v3 v4 v5 v6 : GV) (h : Heap) : Option R := n11 k (fun x v0 v3 v4 v5 v6 h => kb 1 x fun x => G x v0 v3 v4 v5 v6 h) v0 v3 v4 v5 v6 h
theorem n10_eq (G : KT5 R) (σ : GS) (h : Heap) : KC k 19 c10 σ h (fun x σ h => G x (σ 0) (σ 3) (σ 4) (σ 5) (σ 6) h) = n10 k G (σ 0) (σ 3) (σ 4) (σ 5) (σ 6) h := (kblock_eq (a := c11) rfl).trans (n11_eq k (fun x v0 v3 v4 v5 v6 h => kb 1 x fun x => G x v0 v3 v4 v5 v6 h) σ h)
@[simp] def n8 (G : KT5 R) (v0 v3 v4 v5 v6 : GV) (h : Heap) : Option R := n10 k (fun x v0 v3 v4 v5 v6 h => kx x (n9 k G v0 v3 v4 v5 v6 h) (G x v0 v3 v4 v5 v6 h)) v0 v3 v4 v5 v6 h
theorem n8_eq (G : KT5 R) (σ : GS) (h : Heap) : KC k 19 c8 σ h (fun x σ h => G x (σ 0) (σ 3) (σ 4) (σ 5) (σ 6) h) = n8 k G (σ 0) (σ 3) (σ 4) (σ 5) (σ 6) h := (kseq (b := c9) rfl (fun σ h => n9_eq k G σ h)).trans (n10_eq k (fun x v0 v3 v4 v5 v6 h => kx x (n9 k G v0 v3 v4 v5 v6 h) (G x v0 v3 v4 v5 v6 h)) σ h)
noncomputable def c12 : Code := cL c7
@[simp] def n7 (G : KT5 R) (v0 v3 v4 v5 v6 : GV) (h : Heap) : Option R := (kbin .lss v6 v0).bind fun v10 => kcond v10 (n8 k G v0 v3 v4 v5 v6 h) (G (.ext 0) v0 v3 v4 v5 v6 h)
theorem n7_eq (G : KT5 R) (σ : GS) (h : Heap) : KC k 19 c7 σ h (fun x σ h => G x (σ 0) (σ 3) (σ 4) (σ 5) (σ 6) h) = n7 k G (σ 0) (σ 3) (σ 4) (σ 5) (σ 6) h := (kseq (a := c12) (b := c8) rfl (fun σ h => n8_eq k G σ h)).trans (by kernel_rfl)
def l6 {R : Type} (k : Nat) (G : KT2 R) : Nat → GV → GV → GV → GV → GV → Heap → Option R
  | 0, _, _, _, _, _, _ => none
  | r + 1, v0, v3, v4, v5, v6, h => n7 k (fun x v0 v3 v4 v5 v6 h => kx x (l6 k G r v0 v3 v4 v5 v6 h) (G x v4 v5 h)) v0 v3 v4 v5 v6 h
theorem l6_eq {R : Type} (k : Nat) (G : KT2 R) : ∀ (r : Nat) (σ : GS) (h : Heap), kloop (fun σ h K => KC k 19 c7 σ h K) r σ h (fun x σ h => G x (σ 4) (σ 5) h) = l6 k G r (σ 0) (σ 3) (σ 4) (σ 5) (σ 6) h
  | 0, _, _ => rfl
  | r + 1, σ, h => (kloop_eq (fun σ h => l6_eq k G r σ h)).trans (n7_eq k (fun x v0 v3 v4 v5 v6 h => kx x (l6 k G r v0 v3 v4 v5 v6 h) (G x v4 v5 h)) σ h)
@[simp] def n6 (G : KT2 R) (v0 v3 v4 v5 v6 : GV) (h : Heap) : Option R := l6 k G k v0 v3 v4 v5 v6 h
theorem n6_eq (G : KT2 R) (σ : GS) (h : Heap) : KC k 19 c6 σ h (fun x σ h => G x (σ 4) (σ 5) h) = n6 k G (σ 0) (σ 3) (σ 4) (σ 5) (σ 6) h := (kloopc_eq (a := c7) rfl).trans (l6_eq k G k σ h)
@[simp] def n5 (G : KT2 R) (v0 v3 v4 v5 v6 : GV) (h : Heap) : Option R := n6 k (fun x v4 v5 h => kb 0 x fun x => G x v4 v5 h) v0 v3 v4 v5 v6 h
theorem n5_eq (G : KT2 R) (σ : GS) (h : Heap) : KC k 19 c5 σ h (fun x σ h => G x (σ 4) (σ 5) h) = n5 k G (σ 0) (σ 3) (σ 4) (σ 5) (σ 6) h := (kblock_eq (a := c6) rfl).trans (n6_eq k (fun x v4 v5 h => kb 0 x fun x => G x v4 v5 h) σ h)
noncomputable def c13 : Code := cL c4
@[simp] def n4 (G : KT2 R) (v0 v3 v4 v5 : GV) (h : Heap) : Option R := n5 k G v0 v3 v4 v5 (.int .i64 0) h
theorem n4_eq (G : KT2 R) (σ : GS) (h : Heap) : KC k 19 c4 σ h (fun x σ h => G x (σ 4) (σ 5) h) = n4 k G (σ 0) (σ 3) (σ 4) (σ 5) h := (kseq (a := c13) (b := c5) rfl (fun σ h => n5_eq k G σ h)).trans (by kernel_rfl)
@[simp] def n2 (G : KT1 R) (v0 v3 v4 v5 : GV) (h : Heap) : Option R := n4 k (fun x v4 v5 h => kx x (n3 k G v5 h) (G x v4 h)) v0 v3 v4 v5 h
theorem n2_eq (G : KT1 R) (σ : GS) (h : Heap) : KC k 19 c2 σ h (fun x σ h => G x (σ 4) h) = n2 k G (σ 0) (σ 3) (σ 4) (σ 5) h := (kseq (b := c3) rfl (fun σ h => n3_eq k G σ h)).trans (n4_eq k (fun x v4 v5 h => kx x (n3 k G v5 h) (G x v4 h)) σ h)
noncomputable def c14 : Code := cL c1
@[simp] def n1 (G : KT1 R) (v0 v3 v4 : GV) (h : Heap) : Option R := n2 k G v0 v3 v4 .emp h
theorem n1_eq (G : KT1 R) (σ : GS) (h : Heap) : KC k 19 c1 σ h (fun x σ h => G x (σ 4) h) = n1 k G (σ 0) (σ 3) (σ 4) h := (kseq (a := c14) (b := c2) rfl (fun σ h => n2_eq k G σ h)).trans (by kernel_rfl)
noncomputable def c15 : Code := cL c0
@[simp] def n0 (G : KT1 R) (v0 v1 : GV) (h : Heap) : Option R := kbox v1 h fun v3 h => n1 k G v0 v3 .nils h
theorem n0_eq (G : KT1 R) (σ : GS) (h : Heap) : KC k 19 c0 σ h (fun x σ h => G x (σ 4) h) = n0 k G (σ 0) (σ 1) h := (kseq (a := c15) (b := c1) rfl (fun σ h => n1_eq k G σ h)).trans (by kernel_rfl)
def run {R : Type} (k : Nat) (a0 : GV) (a1 : GV) (h : Heap) (fin : GV → Heap → Option R) : Option R := n0 k (fun x v4 h => kend x (fin v4 h)) a0 a1 h
theorem run_eq {R : Type} (k : Nat) (a0 : GV) (a1 : GV) (h : Heap) (fin : GV → Heap → Option R) : kfun PP cfg NN HH k fn.spec_l4Row [a0, a1] h fin = run k a0 a1 h fin := (kfun_eq (nt := 19) (c := c0) (show PP.funcs[fn.spec_l4Row]? = some Try.f230 by kernel_rfl) (by kernel_rfl) (by kernel_rfl) (fun x σ h => by cases x <;> kernel_rfl)).trans (n0_eq k (fun x v4 h => kend x (fin v4 h)) _ h)
theorem gives {k : Nat} {a0 : GV} {a1 : GV} {b : Nat} {q : GV × List (List GV)} (e : run k a0 a1 [] (finO b) = some q) : OO fn.spec_l4Row [a0, a1] b = some q := oω_of ((run_eq k a0 a1 [] (finO b)).trans e)
end S.spec_l4Row
/-! spec_l4Blank -/
namespace S.spec_l4Blank
noncomputable def c0 : Code := bodyOf Try.f267
@[simp] def n0 {R : Type} (k : Nat) (G : KT1 R) (v0 : GV) (h : Heap) : Option R := kbox v0 h fun v1 h => kalloc [(.int .i64 0), (.int .i64 0), (.int .i64 0), (.bool false), (.bool false), (.bool false), (.int .i64 0)] h fun v2 h => (kloadA 5 h v1).bind fun v3 => (gfill (fun i => [(0, 1), (1, 5), (6, 1)][i]?) [(.int .i64 0), (.int .i64 0), (.int .i64 0), (.bool false), (.bool false), (.bool false), (.int .i64 0)] [(0, (.int .i64 32)), (1, v3)]).bind fun c => kagg c h fun v4 h => (kstore 7 h v2 v4).bind fun h => G .ret v2 h
theorem n0_eq (G : KT1 R) (σ : GS) (h : Heap) : KC k 5 c0 σ h (fun x σ h => G x (σ 2) h) = n0 k G (σ 0) h := by kernel_rfl
def run {R : Type} (k : Nat) (a0 : GV) (h : Heap) (fin : GV → Heap → Option R) : Option R := n0 k (fun x v2 h => kend x ((kloadA 7 h v2).bind fun w2 => fin w2 h)) a0 h
theorem run_eq {R : Type} (k : Nat) (a0 : GV) (h : Heap) (fin : GV → Heap → Option R) : kfun PP cfg NN HH k fn.spec_l4Blank [a0] h fin = run k a0 h fin := (kfun_eq (nt := 5) (c := c0) (show PP.funcs[fn.spec_l4Blank]? = some Try.f267 by kernel_rfl) (by kernel_rfl) (by kernel_rfl) (fun x σ h => by cases x <;> kernel_rfl)).trans (n0_eq k (fun x v2 h => kend x ((kloadA 7 h v2).bind fun w2 => fin w2 h)) _ h)
theorem gives {k : Nat} {a0 : GV} {v : GV} (e : run k a0 [] finN = some v) : NN fn.spec_l4Blank [a0] = some v := nω_of (by kernel_rfl) ((run_eq k a0 [] finN).trans e)
end S.spec_l4Blank
end
end Go.Proofs.Ytlbnioapepelnaa.G
