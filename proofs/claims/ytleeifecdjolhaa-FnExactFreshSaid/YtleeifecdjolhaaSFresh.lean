/- What these functions do, told for open values, out of the machine with continuations. Printed by a program of this session. -/
import Derived.Test.YtleeifecdjolhaaCfg
import Derived.KernelRfl
namespace Go.Proofs.Ytleeifecdjolhaa.G
open Go.RowKit
set_option linter.unusedVariables false
set_option maxRecDepth 100000
noncomputable section
/-! slices_Index_int64 -/
namespace S.slices_Index_int64
noncomputable def c0 : Code := bodyOf Try.f103
noncomputable def c1 : Code := cR c0
noncomputable def c2 : Code := cR c1
@[simp] def n2 {R : Type} (k : Nat) (G : GX → GV → Heap → Option R) (h : Heap) : Option R := G .ret (.int .i64 (-1)) h
theorem n2_eq {R : Type} (k : Nat) (G : GX → GV → Heap → Option R) (σ : GS) (h : Heap) : KC k 19 c2 σ h (fun x σ h => G x (σ 4) h) = n2 k G h := by kernel_rfl
noncomputable def c3 : Code := cL c1
noncomputable def c4 : Code := cR c3
noncomputable def c5 : Code := cL c4
noncomputable def c6 : Code := cL c5
noncomputable def c7 : Code := cR c6
noncomputable def c8 : Code := cR c7
noncomputable def c9 : Code := cR c8
@[simp] def n9 {R : Type} (k : Nat) (G : GX → GV → GV → GV → GV → GV → Heap → Option R) (v0 : GV) (v1 : GV) (v4 : GV) (v7 : GV) (v8 : GV) (h : Heap) : Option R := (kbin .add v8 (.int .i64 1)).bind fun v18 => G .nrm v0 v1 v4 v7 v18 h
theorem n9_eq {R : Type} (k : Nat) (G : GX → GV → GV → GV → GV → GV → Heap → Option R) (σ : GS) (h : Heap) : KC k 19 c9 σ h (fun x σ h => G x (σ 0) (σ 1) (σ 4) (σ 7) (σ 8) h) = n9 k G (σ 0) (σ 1) (σ 4) (σ 7) (σ 8) h := by kernel_rfl
noncomputable def c10 : Code := cL c8
noncomputable def c11 : Code := cL c10
@[simp] def n11 {R : Type} (k : Nat) (G : GX → GV → GV → GV → GV → GV → Heap → Option R) (v0 : GV) (v1 : GV) (v4 : GV) (v7 : GV) (v8 : GV) (h : Heap) : Option R := (kia 1 v0 v8).bind fun v14 => (kload1 h v14).bind fun v15 => (kbin .eql v1 v15).bind fun v16 => kcond v16 (G .ret v0 v1 v8 v7 v8 h) (G .nrm v0 v1 v4 v7 v8 h)
theorem n11_eq {R : Type} (k : Nat) (G : GX → GV → GV → GV → GV → GV → Heap → Option R) (σ : GS) (h : Heap) : KC k 19 c11 σ h (fun x σ h => G x (σ 0) (σ 1) (σ 4) (σ 7) (σ 8) h) = n11 k G (σ 0) (σ 1) (σ 4) (σ 7) (σ 8) h := by kernel_rfl
@[simp] def n10 {R : Type} (k : Nat) (G : GX → GV → GV → GV → GV → GV → Heap → Option R) (v0 : GV) (v1 : GV) (v4 : GV) (v7 : GV) (v8 : GV) (h : Heap) : Option R := n11 k (fun x v0 v1 v4 v7 v8 h => kb 1 x fun x => G x v0 v1 v4 v7 v8 h) v0 v1 v4 v7 v8 h
theorem n10_eq {R : Type} (k : Nat) (G : GX → GV → GV → GV → GV → GV → Heap → Option R) (σ : GS) (h : Heap) : KC k 19 c10 σ h (fun x σ h => G x (σ 0) (σ 1) (σ 4) (σ 7) (σ 8) h) = n10 k G (σ 0) (σ 1) (σ 4) (σ 7) (σ 8) h := (kblock_eq (a := c11) rfl).trans (n11_eq k (fun x v0 v1 v4 v7 v8 h => kb 1 x fun x => G x v0 v1 v4 v7 v8 h) σ h)
@[simp] def n8 {R : Type} (k : Nat) (G : GX → GV → GV → GV → GV → GV → Heap → Option R) (v0 : GV) (v1 : GV) (v4 : GV) (v7 : GV) (v8 : GV) (h : Heap) : Option R := n10 k (fun x v0 v1 v4 v7 v8 h => kx x (n9 k G v0 v1 v4 v7 v8 h) (G x v0 v1 v4 v7 v8 h)) v0 v1 v4 v7 v8 h
theorem n8_eq {R : Type} (k : Nat) (G : GX → GV → GV → GV → GV → GV → Heap → Option R) (σ : GS) (h : Heap) : KC k 19 c8 σ h (fun x σ h => G x (σ 0) (σ 1) (σ 4) (σ 7) (σ 8) h) = n8 k G (σ 0) (σ 1) (σ 4) (σ 7) (σ 8) h := (kseq (b := c9) rfl (fun σ h => n9_eq k G σ h)).trans (n10_eq k (fun x v0 v1 v4 v7 v8 h => kx x (n9 k G v0 v1 v4 v7 v8 h) (G x v0 v1 v4 v7 v8 h)) σ h)
noncomputable def c12 : Code := cL c7
@[simp] def n7 {R : Type} (k : Nat) (G : GX → GV → GV → GV → GV → GV → Heap → Option R) (v0 : GV) (v1 : GV) (v4 : GV) (v7 : GV) (v8 : GV) (v9 : GV) (h : Heap) : Option R := kcond v9 (n8 k G v0 v1 v4 v7 v8 h) (G (.ext 0) v0 v1 v4 v7 v8 h)
theorem n7_eq0 {R : Type} (k : Nat) (G : GX → GV → GV → GV → GV → GV → Heap → Option R) (σ : GS) (h : Heap) : KC k 19 c12 σ h (fun x σ h => kx x (n8 k G (σ 0) (σ 1) (σ 4) (σ 7) (σ 8) h) (G x (σ 0) (σ 1) (σ 4) (σ 7) (σ 8) h)) = n7 k G (σ 0) (σ 1) (σ 4) (σ 7) (σ 8) (σ 9) h := by kernel_rfl
theorem n7_eq {R : Type} (k : Nat) (G : GX → GV → GV → GV → GV → GV → Heap → Option R) (σ : GS) (h : Heap) : KC k 19 c7 σ h (fun x σ h => G x (σ 0) (σ 1) (σ 4) (σ 7) (σ 8) h) = n7 k G (σ 0) (σ 1) (σ 4) (σ 7) (σ 8) (σ 9) h := (kseq (b := c8) rfl (fun σ h => n8_eq k G σ h)).trans (n7_eq0 k G σ h)
noncomputable def c13 : Code := cL c6
@[simp] def n6 {R : Type} (k : Nat) (G : GX → GV → GV → GV → GV → GV → Heap → Option R) (v0 : GV) (v1 : GV) (v4 : GV) (v7 : GV) (v8 : GV) (h : Heap) : Option R := (kbin .lss v8 v7).bind fun v9 => n7 k G v0 v1 v4 v7 v8 v9 h
theorem n6_eq0 {R : Type} (k : Nat) (G : GX → GV → GV → GV → GV → GV → Heap → Option R) (σ : GS) (h : Heap) : KC k 19 c13 σ h (fun x σ h => kx x (n7 k G (σ 0) (σ 1) (σ 4) (σ 7) (σ 8) (σ 9) h) (G x (σ 0) (σ 1) (σ 4) (σ 7) (σ 8) h)) = n6 k G (σ 0) (σ 1) (σ 4) (σ 7) (σ 8) h := by kernel_rfl
theorem n6_eq {R : Type} (k : Nat) (G : GX → GV → GV → GV → GV → GV → Heap → Option R) (σ : GS) (h : Heap) : KC k 19 c6 σ h (fun x σ h => G x (σ 0) (σ 1) (σ 4) (σ 7) (σ 8) h) = n6 k G (σ 0) (σ 1) (σ 4) (σ 7) (σ 8) h := (kseq (b := c7) rfl (fun σ h => n7_eq k G σ h)).trans (n6_eq0 k G σ h)
def l5 {R : Type} (k : Nat) (G : GX → GV → Heap → Option R) : Nat → GV → GV → GV → GV → GV → Heap → Option R
  | 0, _, _, _, _, _, _ => none
  | r + 1, v0, v1, v4, v7, v8, h => n6 k (fun x v0 v1 v4 v7 v8 h => kx x (l5 k G r v0 v1 v4 v7 v8 h) (G x v4 h)) v0 v1 v4 v7 v8 h
theorem l5_eq {R : Type} (k : Nat) (G : GX → GV → Heap → Option R) : ∀ (r : Nat) (σ : GS) (h : Heap), kloop (fun σ h K => KC k 19 c6 σ h K) r σ h (fun x σ h => G x (σ 4) h) = l5 k G r (σ 0) (σ 1) (σ 4) (σ 7) (σ 8) h
  | 0, _, _ => rfl
  | r + 1, σ, h => (kloop_eq (fun σ h => l5_eq k G r σ h)).trans (n6_eq k (fun x v0 v1 v4 v7 v8 h => kx x (l5 k G r v0 v1 v4 v7 v8 h) (G x v4 h)) σ h)
@[simp] def n5 {R : Type} (k : Nat) (G : GX → GV → Heap → Option R) (v0 : GV) (v1 : GV) (v4 : GV) (v7 : GV) (v8 : GV) (h : Heap) : Option R := l5 k G k v0 v1 v4 v7 v8 h
theorem n5_eq {R : Type} (k : Nat) (G : GX → GV → Heap → Option R) (σ : GS) (h : Heap) : KC k 19 c5 σ h (fun x σ h => G x (σ 4) h) = n5 k G (σ 0) (σ 1) (σ 4) (σ 7) (σ 8) h := (kloopc_eq (a := c6) rfl).trans (l5_eq k G k σ h)
@[simp] def n4 {R : Type} (k : Nat) (G : GX → GV → Heap → Option R) (v0 : GV) (v1 : GV) (v4 : GV) (v7 : GV) (v8 : GV) (h : Heap) : Option R := n5 k (fun x v4 h => kb 0 x fun x => G x v4 h) v0 v1 v4 v7 v8 h
theorem n4_eq {R : Type} (k : Nat) (G : GX → GV → Heap → Option R) (σ : GS) (h : Heap) : KC k 19 c4 σ h (fun x σ h => G x (σ 4) h) = n4 k G (σ 0) (σ 1) (σ 4) (σ 7) (σ 8) h := (kblock_eq (a := c5) rfl).trans (n5_eq k (fun x v4 h => kb 0 x fun x => G x v4 h) σ h)
noncomputable def c14 : Code := cL c3
@[simp] def n3 {R : Type} (k : Nat) (G : GX → GV → Heap → Option R) (v0 : GV) (v1 : GV) (v4 : GV) (h : Heap) : Option R := (klen v0).bind fun v7 => n4 k G v0 v1 v4 v7 (.int .i64 0) h
theorem n3_eq0 {R : Type} (k : Nat) (G : GX → GV → Heap → Option R) (σ : GS) (h : Heap) : KC k 19 c14 σ h (fun x σ h => kx x (n4 k G (σ 0) (σ 1) (σ 4) (σ 7) (σ 8) h) (G x (σ 4) h)) = n3 k G (σ 0) (σ 1) (σ 4) h := by kernel_rfl
theorem n3_eq {R : Type} (k : Nat) (G : GX → GV → Heap → Option R) (σ : GS) (h : Heap) : KC k 19 c3 σ h (fun x σ h => G x (σ 4) h) = n3 k G (σ 0) (σ 1) (σ 4) h := (kseq (b := c4) rfl (fun σ h => n4_eq k G σ h)).trans (n3_eq0 k G σ h)
@[simp] def n1 {R : Type} (k : Nat) (G : GX → GV → Heap → Option R) (v0 : GV) (v1 : GV) (v4 : GV) (h : Heap) : Option R := n3 k (fun x v4 h => kx x (n2 k G h) (G x v4 h)) v0 v1 v4 h
theorem n1_eq {R : Type} (k : Nat) (G : GX → GV → Heap → Option R) (σ : GS) (h : Heap) : KC k 19 c1 σ h (fun x σ h => G x (σ 4) h) = n1 k G (σ 0) (σ 1) (σ 4) h := (kseq (b := c2) rfl (fun σ h => n2_eq k G σ h)).trans (n3_eq k (fun x v4 h => kx x (n2 k G h) (G x v4 h)) σ h)
noncomputable def c15 : Code := cL c0
@[simp] def n0 {R : Type} (k : Nat) (G : GX → GV → Heap → Option R) (v0 : GV) (v1 : GV) (h : Heap) : Option R := n1 k G v0 v1 (.int .i64 0) h
theorem n0_eq0 {R : Type} (k : Nat) (G : GX → GV → Heap → Option R) (σ : GS) (h : Heap) : KC k 19 c15 σ h (fun x σ h => kx x (n1 k G (σ 0) (σ 1) (σ 4) h) (G x (σ 4) h)) = n0 k G (σ 0) (σ 1) h := by kernel_rfl
theorem n0_eq {R : Type} (k : Nat) (G : GX → GV → Heap → Option R) (σ : GS) (h : Heap) : KC k 19 c0 σ h (fun x σ h => G x (σ 4) h) = n0 k G (σ 0) (σ 1) h := (kseq (b := c1) rfl (fun σ h => n1_eq k G σ h)).trans (n0_eq0 k G σ h)
def run {R : Type} (k : Nat) (a0 : GV) (a1 : GV) (h : Heap) (fin : GV → Heap → Option R) : Option R := n0 k (fun x v4 h => kend x (fin v4 h)) a0 a1 h
theorem run_eq {R : Type} (k : Nat) (a0 : GV) (a1 : GV) (h : Heap) (fin : GV → Heap → Option R) : kfun PP cfg NN HH k fn.slices_Index_int64 [a0, a1] h fin = run k a0 a1 h fin := (kfun_eq (nt := 19) (c := c0) (show PP.funcs[fn.slices_Index_int64]? = some Try.f103 by kernel_rfl) (by kernel_rfl) (by kernel_rfl) (fun x σ h => by cases x <;> kernel_rfl)).trans (n0_eq k (fun x v4 h => kend x (fin v4 h)) _ h)
theorem gives {k : Nat} {a0 : GV} {a1 : GV} {v : GV} (e : run k a0 a1 [] finN = some v) : NN fn.slices_Index_int64 [a0, a1] = some v := nω_of (by kernel_rfl) ((run_eq k a0 a1 [] finN).trans e)
end S.slices_Index_int64
/-! slices_Contains_int64 -/
namespace S.slices_Contains_int64
noncomputable def c0 : Code := bodyOf Try.f58
@[simp] def n0 {R : Type} (k : Nat) (G : GX → GV → Heap → Option R) (v0 : GV) (v1 : GV) (h : Heap) : Option R := (kN NN fn.slices_Index_int64 [v0, v1] h).bind fun v7 => (kbin .geq v7 (.int .i64 0)).bind fun v8 => G .ret v8 h
theorem n0_eq {R : Type} (k : Nat) (G : GX → GV → Heap → Option R) (σ : GS) (h : Heap) : KC k 9 c0 σ h (fun x σ h => G x (σ 4) h) = n0 k G (σ 0) (σ 1) h := by kernel_rfl
def run {R : Type} (k : Nat) (a0 : GV) (a1 : GV) (h : Heap) (fin : GV → Heap → Option R) : Option R := n0 k (fun x v4 h => kend x (fin v4 h)) a0 a1 h
theorem run_eq {R : Type} (k : Nat) (a0 : GV) (a1 : GV) (h : Heap) (fin : GV → Heap → Option R) : kfun PP cfg NN HH k fn.slices_Contains_int64 [a0, a1] h fin = run k a0 a1 h fin := (kfun_eq (nt := 9) (c := c0) (show PP.funcs[fn.slices_Contains_int64]? = some Try.f58 by kernel_rfl) (by kernel_rfl) (by kernel_rfl) (fun x σ h => by cases x <;> kernel_rfl)).trans (n0_eq k (fun x v4 h => kend x (fin v4 h)) _ h)
theorem gives {k : Nat} {a0 : GV} {a1 : GV} {v : GV} (e : run k a0 a1 [] finN = some v) : NN fn.slices_Contains_int64 [a0, a1] = some v := nω_of (by kernel_rfl) ((run_eq k a0 a1 [] finN).trans e)
end S.slices_Contains_int64
/-! spec_l15Fresh -/
namespace S.spec_l15Fresh
noncomputable def c0 : Code := bodyOf Try.f57
noncomputable def c1 : Code := cR c0
noncomputable def c2 : Code := cR c1
noncomputable def c3 : Code := cR c2
@[simp] def n3 {R : Type} (k : Nat) (G : GX → GV → Heap → Option R) (v4 : GV) (h : Heap) : Option R := G .ret v4 h
theorem n3_eq {R : Type} (k : Nat) (G : GX → GV → Heap → Option R) (σ : GS) (h : Heap) : KC k 29 c3 σ h (fun x σ h => G x (σ 4) h) = n3 k G (σ 4) h := by kernel_rfl
noncomputable def c4 : Code := cL c2
noncomputable def o4 : Array Oper := cO c4
@[simp] def g4_2 {R : Type} (k : Nat) (G : GX → GV → Heap → Option R) (v22 : GV) (v27 : GV) (h : Heap) : Option R := (kpick v22 v27 (.bool false)).bind fun v28 => G .nrm v28 h
theorem g4_2_eq {R : Type} (k : Nat) (G : GX → GV → Heap → Option R) (σ : GS) (h : Heap) : kgroups PP cfg NN HH 29 o4 [(none, [8, 9])] σ h (fun σ h => G .nrm (σ 4) h) = g4_2 k G (σ 22) (σ 27) h := by kernel_rfl
@[simp] def g4_1 {R : Type} (k : Nat) (G : GX → GV → Heap → Option R) (v1 : GV) (v2 : GV) (v22 : GV) (h : Heap) : Option R := bif tr true v22 then (kfa 0 v2).bind fun v24 => (kload1 h v24).bind fun v25 => (kbin .sub v25 (.int .i64 32)).bind fun v26 => (kbin .gtr v1 v26).bind fun v27 => g4_2 k G v22 v27 h else g4_2 k G v22 .un h
theorem g4_1_eq0 {R : Type} (k : Nat) (G : GX → GV → Heap → Option R) (σ : GS) (h : Heap) : kgroup1 PP cfg NN HH 29 o4 (some (2, true), [3, 4, 5, 6, 7]) σ h (fun σ h => g4_2 k G (σ 22) (σ 27) h) = g4_1 k G (σ 1) (σ 2) (σ 22) h := by kernel_rfl
theorem g4_1_eq {R : Type} (k : Nat) (G : GX → GV → Heap → Option R) (σ : GS) (h : Heap) : kgroups PP cfg NN HH 29 o4 [(some (2, true), [3, 4, 5, 6, 7]), (none, [8, 9])] σ h (fun σ h => G .nrm (σ 4) h) = g4_1 k G (σ 1) (σ 2) (σ 22) h := (kgroups_cons (fun σ h => g4_2_eq k G σ h)).trans (g4_1_eq0 k G σ h)
@[simp] def g4_0 {R : Type} (k : Nat) (G : GX → GV → Heap → Option R) (v1 : GV) (v2 : GV) (h : Heap) : Option R := (kN NN fn.spec_l1In [v1, (.int .i64 0), (.int .i64 1099511627776)] h).bind fun v21 => g4_1 k G v1 v2 v21 h
theorem g4_0_eq0 {R : Type} (k : Nat) (G : GX → GV → Heap → Option R) (σ : GS) (h : Heap) : kgroup1 PP cfg NN HH 29 o4 (none, [0, 1, 2]) σ h (fun σ h => g4_1 k G (σ 1) (σ 2) (σ 22) h) = g4_0 k G (σ 1) (σ 2) h := by kernel_rfl
theorem g4_0_eq {R : Type} (k : Nat) (G : GX → GV → Heap → Option R) (σ : GS) (h : Heap) : kgroups PP cfg NN HH 29 o4 [(none, [0, 1, 2]), (some (2, true), [3, 4, 5, 6, 7]), (none, [8, 9])] σ h (fun σ h => G .nrm (σ 4) h) = g4_0 k G (σ 1) (σ 2) h := (kgroups_cons (fun σ h => g4_1_eq k G σ h)).trans (g4_0_eq0 k G σ h)
@[simp] def n4 {R : Type} (k : Nat) (G : GX → GV → Heap → Option R) (v1 : GV) (v2 : GV) (h : Heap) : Option R := g4_0 k G v1 v2 h
theorem n4_eq {R : Type} (k : Nat) (G : GX → GV → Heap → Option R) (σ : GS) (h : Heap) : KC k 29 c4 σ h (fun x σ h => G x (σ 4) h) = n4 k G (σ 1) (σ 2) h := (kregion_eq (id := 6) (draw := false) (ops := o4) (gs := [(none, [0, 1, 2]), (some (2, true), [3, 4, 5, 6, 7]), (none, [8, 9])]) (by kernel_rfl) (by kernel_rfl) (by kernel_rfl)).trans (g4_0_eq k G σ h)
@[simp] def n2 {R : Type} (k : Nat) (G : GX → GV → Heap → Option R) (v1 : GV) (v2 : GV) (h : Heap) : Option R := n4 k (fun x v4 h => kx x (n3 k G v4 h) (G x v4 h)) v1 v2 h
theorem n2_eq {R : Type} (k : Nat) (G : GX → GV → Heap → Option R) (σ : GS) (h : Heap) : KC k 29 c2 σ h (fun x σ h => G x (σ 4) h) = n2 k G (σ 1) (σ 2) h := (kseq (b := c3) rfl (fun σ h => n3_eq k G σ h)).trans (n4_eq k (fun x v4 h => kx x (n3 k G v4 h) (G x v4 h)) σ h)
noncomputable def c5 : Code := cL c1
noncomputable def c6 : Code := cR c5
noncomputable def c7 : Code := cL c6
noncomputable def c8 : Code := cL c7
noncomputable def c9 : Code := cR c8
noncomputable def c10 : Code := cR c9
@[simp] def n10 {R : Type} (k : Nat) (G : GX → GV → GV → GV → GV → Heap → Option R) (v1 : GV) (v2 : GV) (v4 : GV) (v5 : GV) (h : Heap) : Option R := (kbin .add v5 (.int .i64 1)).bind fun v12 => G .nrm v1 v2 v4 v12 h
theorem n10_eq {R : Type} (k : Nat) (G : GX → GV → GV → GV → GV → Heap → Option R) (σ : GS) (h : Heap) : KC k 29 c10 σ h (fun x σ h => G x (σ 1) (σ 2) (σ 4) (σ 5) h) = n10 k G (σ 1) (σ 2) (σ 4) (σ 5) h := by kernel_rfl
noncomputable def c11 : Code := cL c9
noncomputable def c12 : Code := cL c11
@[simp] def n12 {R : Type} (k : Nat) (G : GX → GV → GV → GV → GV → Heap → Option R) (v1 : GV) (v2 : GV) (v4 : GV) (v5 : GV) (h : Heap) : Option R := (kfa 1 v2).bind fun v13 => (kload1 h v13).bind fun v14 => (kia 1 v14 v5).bind fun v16 => (kload1 h v16).bind fun v17 => (kbin .eql v17 v1).bind fun v19 => kcond v19 (G .ret v1 v2 (.bool false) v5 h) (G .nrm v1 v2 v4 v5 h)
theorem n12_eq {R : Type} (k : Nat) (G : GX → GV → GV → GV → GV → Heap → Option R) (σ : GS) (h : Heap) : KC k 29 c12 σ h (fun x σ h => G x (σ 1) (σ 2) (σ 4) (σ 5) h) = n12 k G (σ 1) (σ 2) (σ 4) (σ 5) h := by kernel_rfl
@[simp] def n11 {R : Type} (k : Nat) (G : GX → GV → GV → GV → GV → Heap → Option R) (v1 : GV) (v2 : GV) (v4 : GV) (v5 : GV) (h : Heap) : Option R := n12 k (fun x v1 v2 v4 v5 h => kb 1 x fun x => G x v1 v2 v4 v5 h) v1 v2 v4 v5 h
theorem n11_eq {R : Type} (k : Nat) (G : GX → GV → GV → GV → GV → Heap → Option R) (σ : GS) (h : Heap) : KC k 29 c11 σ h (fun x σ h => G x (σ 1) (σ 2) (σ 4) (σ 5) h) = n11 k G (σ 1) (σ 2) (σ 4) (σ 5) h := (kblock_eq (a := c12) rfl).trans (n12_eq k (fun x v1 v2 v4 v5 h => kb 1 x fun x => G x v1 v2 v4 v5 h) σ h)
@[simp] def n9 {R : Type} (k : Nat) (G : GX → GV → GV → GV → GV → Heap → Option R) (v1 : GV) (v2 : GV) (v4 : GV) (v5 : GV) (h : Heap) : Option R := n11 k (fun x v1 v2 v4 v5 h => kx x (n10 k G v1 v2 v4 v5 h) (G x v1 v2 v4 v5 h)) v1 v2 v4 v5 h
theorem n9_eq {R : Type} (k : Nat) (G : GX → GV → GV → GV → GV → Heap → Option R) (σ : GS) (h : Heap) : KC k 29 c9 σ h (fun x σ h => G x (σ 1) (σ 2) (σ 4) (σ 5) h) = n9 k G (σ 1) (σ 2) (σ 4) (σ 5) h := (kseq (b := c10) rfl (fun σ h => n10_eq k G σ h)).trans (n11_eq k (fun x v1 v2 v4 v5 h => kx x (n10 k G v1 v2 v4 v5 h) (G x v1 v2 v4 v5 h)) σ h)
noncomputable def c13 : Code := cL c8
@[simp] def n8 {R : Type} (k : Nat) (G : GX → GV → GV → GV → GV → Heap → Option R) (v1 : GV) (v2 : GV) (v4 : GV) (v5 : GV) (h : Heap) : Option R := (kfa 1 v2).bind fun v7 => (kload1 h v7).bind fun v8 => (klen v8).bind fun v9 => (kbin .lss v5 v9).bind fun v10 => kcond v10 (n9 k G v1 v2 v4 v5 h) (G (.ext 0) v1 v2 v4 v5 h)
theorem n8_eq0 {R : Type} (k : Nat) (G : GX → GV → GV → GV → GV → Heap → Option R) (σ : GS) (h : Heap) : KC k 29 c13 σ h (fun x σ h => kx x (n9 k G (σ 1) (σ 2) (σ 4) (σ 5) h) (G x (σ 1) (σ 2) (σ 4) (σ 5) h)) = n8 k G (σ 1) (σ 2) (σ 4) (σ 5) h := by kernel_rfl
theorem n8_eq {R : Type} (k : Nat) (G : GX → GV → GV → GV → GV → Heap → Option R) (σ : GS) (h : Heap) : KC k 29 c8 σ h (fun x σ h => G x (σ 1) (σ 2) (σ 4) (σ 5) h) = n8 k G (σ 1) (σ 2) (σ 4) (σ 5) h := (kseq (b := c9) rfl (fun σ h => n9_eq k G σ h)).trans (n8_eq0 k G σ h)
def l7 {R : Type} (k : Nat) (G : GX → GV → GV → GV → Heap → Option R) : Nat → GV → GV → GV → GV → Heap → Option R
  | 0, _, _, _, _, _ => none
  | r + 1, v1, v2, v4, v5, h => n8 k (fun x v1 v2 v4 v5 h => kx x (l7 k G r v1 v2 v4 v5 h) (G x v1 v2 v4 h)) v1 v2 v4 v5 h
theorem l7_eq {R : Type} (k : Nat) (G : GX → GV → GV → GV → Heap → Option R) : ∀ (r : Nat) (σ : GS) (h : Heap), kloop (fun σ h K => KC k 29 c8 σ h K) r σ h (fun x σ h => G x (σ 1) (σ 2) (σ 4) h) = l7 k G r (σ 1) (σ 2) (σ 4) (σ 5) h
  | 0, _, _ => rfl
  | r + 1, σ, h => (kloop_eq (fun σ h => l7_eq k G r σ h)).trans (n8_eq k (fun x v1 v2 v4 v5 h => kx x (l7 k G r v1 v2 v4 v5 h) (G x v1 v2 v4 h)) σ h)
@[simp] def n7 {R : Type} (k : Nat) (G : GX → GV → GV → GV → Heap → Option R) (v1 : GV) (v2 : GV) (v4 : GV) (v5 : GV) (h : Heap) : Option R := l7 k G k v1 v2 v4 v5 h
theorem n7_eq {R : Type} (k : Nat) (G : GX → GV → GV → GV → Heap → Option R) (σ : GS) (h : Heap) : KC k 29 c7 σ h (fun x σ h => G x (σ 1) (σ 2) (σ 4) h) = n7 k G (σ 1) (σ 2) (σ 4) (σ 5) h := (kloopc_eq (a := c8) rfl).trans (l7_eq k G k σ h)
@[simp] def n6 {R : Type} (k : Nat) (G : GX → GV → GV → GV → Heap → Option R) (v1 : GV) (v2 : GV) (v4 : GV) (v5 : GV) (h : Heap) : Option R := n7 k (fun x v1 v2 v4 h => kb 0 x fun x => G x v1 v2 v4 h) v1 v2 v4 v5 h
theorem n6_eq {R : Type} (k : Nat) (G : GX → GV → GV → GV → Heap → Option R) (σ : GS) (h : Heap) : KC k 29 c6 σ h (fun x σ h => G x (σ 1) (σ 2) (σ 4) h) = n6 k G (σ 1) (σ 2) (σ 4) (σ 5) h := (kblock_eq (a := c7) rfl).trans (n7_eq k (fun x v1 v2 v4 h => kb 0 x fun x => G x v1 v2 v4 h) σ h)
noncomputable def c14 : Code := cL c5
@[simp] def n5 {R : Type} (k : Nat) (G : GX → GV → GV → GV → Heap → Option R) (v1 : GV) (v2 : GV) (v4 : GV) (h : Heap) : Option R := n6 k G v1 v2 v4 (.int .i64 0) h
theorem n5_eq0 {R : Type} (k : Nat) (G : GX → GV → GV → GV → Heap → Option R) (σ : GS) (h : Heap) : KC k 29 c14 σ h (fun x σ h => kx x (n6 k G (σ 1) (σ 2) (σ 4) (σ 5) h) (G x (σ 1) (σ 2) (σ 4) h)) = n5 k G (σ 1) (σ 2) (σ 4) h := by kernel_rfl
theorem n5_eq {R : Type} (k : Nat) (G : GX → GV → GV → GV → Heap → Option R) (σ : GS) (h : Heap) : KC k 29 c5 σ h (fun x σ h => G x (σ 1) (σ 2) (σ 4) h) = n5 k G (σ 1) (σ 2) (σ 4) h := (kseq (b := c6) rfl (fun σ h => n6_eq k G σ h)).trans (n5_eq0 k G σ h)
@[simp] def n1 {R : Type} (k : Nat) (G : GX → GV → Heap → Option R) (v1 : GV) (v2 : GV) (v4 : GV) (h : Heap) : Option R := n5 k (fun x v1 v2 v4 h => kx x (n2 k G v1 v2 h) (G x v4 h)) v1 v2 v4 h
theorem n1_eq {R : Type} (k : Nat) (G : GX → GV → Heap → Option R) (σ : GS) (h : Heap) : KC k 29 c1 σ h (fun x σ h => G x (σ 4) h) = n1 k G (σ 1) (σ 2) (σ 4) h := (kseq (b := c2) rfl (fun σ h => n2_eq k G σ h)).trans (n5_eq k (fun x v1 v2 v4 h => kx x (n2 k G v1 v2 h) (G x v4 h)) σ h)
noncomputable def c15 : Code := cL c0
@[simp] def n0 {R : Type} (k : Nat) (G : GX → GV → Heap → Option R) (v0 : GV) (v1 : GV) (h : Heap) : Option R := kbox v0 h fun v2 h => n1 k G v1 v2 (.bool false) h
theorem n0_eq0 {R : Type} (k : Nat) (G : GX → GV → Heap → Option R) (σ : GS) (h : Heap) : KC k 29 c15 σ h (fun x σ h => kx x (n1 k G (σ 1) (σ 2) (σ 4) h) (G x (σ 4) h)) = n0 k G (σ 0) (σ 1) h := by kernel_rfl
theorem n0_eq {R : Type} (k : Nat) (G : GX → GV → Heap → Option R) (σ : GS) (h : Heap) : KC k 29 c0 σ h (fun x σ h => G x (σ 4) h) = n0 k G (σ 0) (σ 1) h := (kseq (b := c1) rfl (fun σ h => n1_eq k G σ h)).trans (n0_eq0 k G σ h)
def run {R : Type} (k : Nat) (a0 : GV) (a1 : GV) (h : Heap) (fin : GV → Heap → Option R) : Option R := n0 k (fun x v4 h => kend x (fin v4 h)) a0 a1 h
theorem run_eq {R : Type} (k : Nat) (a0 : GV) (a1 : GV) (h : Heap) (fin : GV → Heap → Option R) : kfun PP cfg NN HH k fn.spec_l15Fresh [a0, a1] h fin = run k a0 a1 h fin := (kfun_eq (nt := 29) (c := c0) (show PP.funcs[fn.spec_l15Fresh]? = some Try.f57 by kernel_rfl) (by kernel_rfl) (by kernel_rfl) (fun x σ h => by cases x <;> kernel_rfl)).trans (n0_eq k (fun x v4 h => kend x (fin v4 h)) _ h)
theorem gives {k : Nat} {a0 : GV} {a1 : GV} {v : GV} (e : run k a0 a1 [] finN = some v) : NN fn.spec_l15Fresh [a0, a1] = some v := nω_of (by kernel_rfl) ((run_eq k a0 a1 [] finN).trans e)
end S.spec_l15Fresh
/-! spec_Fresh -/
namespace S.spec_Fresh
noncomputable def c0 : Code := bodyOf Try.f25
noncomputable def c1 : Code := cR c0
noncomputable def c2 : Code := cR c1
@[simp] def n2 {R : Type} (k : Nat) (G : GX → GV → Heap → Option R) (v4 : GV) (h : Heap) : Option R := G .ret v4 h
theorem n2_eq {R : Type} (k : Nat) (G : GX → GV → Heap → Option R) (σ : GS) (h : Heap) : KC k 12 c2 σ h (fun x σ h => G x (σ 4) h) = n2 k G (σ 4) h := by kernel_rfl
noncomputable def c3 : Code := cL c1
noncomputable def o3 : Array Oper := cO c3
@[simp] def g3_2 {R : Type} (k : Nat) (G : GX → GV → Heap → Option R) (v7 : GV) (v10 : GV) (h : Heap) : Option R := (kpick v7 v10 (.bool false)).bind fun v11 => G .nrm v11 h
theorem g3_2_eq {R : Type} (k : Nat) (G : GX → GV → Heap → Option R) (σ : GS) (h : Heap) : kgroups PP cfg NN HH 12 o3 [(none, [6, 7])] σ h (fun σ h => G .nrm (σ 4) h) = g3_2 k G (σ 7) (σ 10) h := by kernel_rfl
@[simp] def g3_1 {R : Type} (k : Nat) (G : GX → GV → Heap → Option R) (v1 : GV) (v2 : GV) (v7 : GV) (h : Heap) : Option R := bif tr true v7 then (kloadA 2 h v2).bind fun v8 => (kN NN fn.spec_l15Fresh [v8, v1] h).bind fun v10 => g3_2 k G v7 v10 h else g3_2 k G v7 .un h
theorem g3_1_eq0 {R : Type} (k : Nat) (G : GX → GV → Heap → Option R) (σ : GS) (h : Heap) : kgroup1 PP cfg NN HH 12 o3 (some (2, true), [3, 4, 5]) σ h (fun σ h => g3_2 k G (σ 7) (σ 10) h) = g3_1 k G (σ 1) (σ 2) (σ 7) h := by kernel_rfl
theorem g3_1_eq {R : Type} (k : Nat) (G : GX → GV → Heap → Option R) (σ : GS) (h : Heap) : kgroups PP cfg NN HH 12 o3 [(some (2, true), [3, 4, 5]), (none, [6, 7])] σ h (fun σ h => G .nrm (σ 4) h) = g3_1 k G (σ 1) (σ 2) (σ 7) h := (kgroups_cons (fun σ h => g3_2_eq k G σ h)).trans (g3_1_eq0 k G σ h)
@[simp] def g3_0 {R : Type} (k : Nat) (G : GX → GV → Heap → Option R) (v1 : GV) (v2 : GV) (h : Heap) : Option R := (kloadA 2 h v2).bind fun v5 => (kN NN fn.spec_WindowOk [v5] h).bind fun v6 => g3_1 k G v1 v2 v6 h
theorem g3_0_eq0 {R : Type} (k : Nat) (G : GX → GV → Heap → Option R) (σ : GS) (h : Heap) : kgroup1 PP cfg NN HH 12 o3 (none, [0, 1, 2]) σ h (fun σ h => g3_1 k G (σ 1) (σ 2) (σ 7) h) = g3_0 k G (σ 1) (σ 2) h := by kernel_rfl
theorem g3_0_eq {R : Type} (k : Nat) (G : GX → GV → Heap → Option R) (σ : GS) (h : Heap) : kgroups PP cfg NN HH 12 o3 [(none, [0, 1, 2]), (some (2, true), [3, 4, 5]), (none, [6, 7])] σ h (fun σ h => G .nrm (σ 4) h) = g3_0 k G (σ 1) (σ 2) h := (kgroups_cons (fun σ h => g3_1_eq k G σ h)).trans (g3_0_eq0 k G σ h)
@[simp] def n3 {R : Type} (k : Nat) (G : GX → GV → Heap → Option R) (v1 : GV) (v2 : GV) (h : Heap) : Option R := g3_0 k G v1 v2 h
theorem n3_eq {R : Type} (k : Nat) (G : GX → GV → Heap → Option R) (σ : GS) (h : Heap) : KC k 12 c3 σ h (fun x σ h => G x (σ 4) h) = n3 k G (σ 1) (σ 2) h := (kregion_eq (id := 1) (draw := false) (ops := o3) (gs := [(none, [0, 1, 2]), (some (2, true), [3, 4, 5]), (none, [6, 7])]) (by kernel_rfl) (by kernel_rfl) (by kernel_rfl)).trans (g3_0_eq k G σ h)
@[simp] def n1 {R : Type} (k : Nat) (G : GX → GV → Heap → Option R) (v1 : GV) (v2 : GV) (h : Heap) : Option R := n3 k (fun x v4 h => kx x (n2 k G v4 h) (G x v4 h)) v1 v2 h
theorem n1_eq {R : Type} (k : Nat) (G : GX → GV → Heap → Option R) (σ : GS) (h : Heap) : KC k 12 c1 σ h (fun x σ h => G x (σ 4) h) = n1 k G (σ 1) (σ 2) h := (kseq (b := c2) rfl (fun σ h => n2_eq k G σ h)).trans (n3_eq k (fun x v4 h => kx x (n2 k G v4 h) (G x v4 h)) σ h)
noncomputable def c4 : Code := cL c0
@[simp] def n0 {R : Type} (k : Nat) (G : GX → GV → Heap → Option R) (v0 : GV) (v1 : GV) (h : Heap) : Option R := kbox v0 h fun v2 h => n1 k G v1 v2 h
theorem n0_eq0 {R : Type} (k : Nat) (G : GX → GV → Heap → Option R) (σ : GS) (h : Heap) : KC k 12 c4 σ h (fun x σ h => kx x (n1 k G (σ 1) (σ 2) h) (G x (σ 4) h)) = n0 k G (σ 0) (σ 1) h := by kernel_rfl
theorem n0_eq {R : Type} (k : Nat) (G : GX → GV → Heap → Option R) (σ : GS) (h : Heap) : KC k 12 c0 σ h (fun x σ h => G x (σ 4) h) = n0 k G (σ 0) (σ 1) h := (kseq (b := c1) rfl (fun σ h => n1_eq k G σ h)).trans (n0_eq0 k G σ h)
def run {R : Type} (k : Nat) (a0 : GV) (a1 : GV) (h : Heap) (fin : GV → Heap → Option R) : Option R := n0 k (fun x v4 h => kend x (fin v4 h)) a0 a1 h
theorem run_eq {R : Type} (k : Nat) (a0 : GV) (a1 : GV) (h : Heap) (fin : GV → Heap → Option R) : kfun PP cfg NN HH k fn.spec_Fresh [a0, a1] h fin = run k a0 a1 h fin := (kfun_eq (nt := 12) (c := c0) (show PP.funcs[fn.spec_Fresh]? = some Try.f25 by kernel_rfl) (by kernel_rfl) (by kernel_rfl) (fun x σ h => by cases x <;> kernel_rfl)).trans (n0_eq k (fun x v4 h => kend x (fin v4 h)) _ h)
theorem gives {k : Nat} {a0 : GV} {a1 : GV} {v : GV} (e : run k a0 a1 [] finN = some v) : NN fn.spec_Fresh [a0, a1] = some v := nω_of (by kernel_rfl) ((run_eq k a0 a1 [] finN).trans e)
end S.spec_Fresh
/-! impl_Fresh -/
namespace S.impl_Fresh
noncomputable def c0 : Code := bodyOf Try.f26
noncomputable def c1 : Code := cR c0
noncomputable def c2 : Code := cR c1
@[simp] def n2 {R : Type} (k : Nat) (G : GX → GV → Heap → Option R) (v4 : GV) (h : Heap) : Option R := G .ret v4 h
theorem n2_eq {R : Type} (k : Nat) (G : GX → GV → Heap → Option R) (σ : GS) (h : Heap) : KC k 25 c2 σ h (fun x σ h => G x (σ 4) h) = n2 k G (σ 4) h := by kernel_rfl
noncomputable def c3 : Code := cL c1
noncomputable def o3 : Array Oper := cO c3
@[simp] def g3_6 {R : Type} (k : Nat) (G : GX → GV → Heap → Option R) (v18 : GV) (v23 : GV) (h : Heap) : Option R := (kpick v18 v23 (.bool false)).bind fun v24 => G .nrm v24 h
theorem g3_6_eq {R : Type} (k : Nat) (G : GX → GV → Heap → Option R) (σ : GS) (h : Heap) : kgroups PP cfg NN HH 25 o3 [(none, [19, 20])] σ h (fun σ h => G .nrm (σ 4) h) = g3_6 k G (σ 18) (σ 23) h := by kernel_rfl
@[simp] def g3_5 {R : Type} (k : Nat) (G : GX → GV → Heap → Option R) (v1 : GV) (v2 : GV) (v18 : GV) (h : Heap) : Option R := bif tr true v18 then (kfa 1 v2).bind fun v19 => (kload1 h v19).bind fun v20 => (kN NN fn.slices_Contains_int64 [v20, v1] h).bind fun v22 => (kun .not v22).bind fun v23 => g3_6 k G v18 v23 h else g3_6 k G v18 .un h
theorem g3_5_eq0 {R : Type} (k : Nat) (G : GX → GV → Heap → Option R) (σ : GS) (h : Heap) : kgroup1 PP cfg NN HH 25 o3 (some (13, true), [14, 15, 16, 17, 18]) σ h (fun σ h => g3_6 k G (σ 18) (σ 23) h) = g3_5 k G (σ 1) (σ 2) (σ 18) h := by kernel_rfl
theorem g3_5_eq {R : Type} (k : Nat) (G : GX → GV → Heap → Option R) (σ : GS) (h : Heap) : kgroups PP cfg NN HH 25 o3 [(some (13, true), [14, 15, 16, 17, 18]), (none, [19, 20])] σ h (fun σ h => G .nrm (σ 4) h) = g3_5 k G (σ 1) (σ 2) (σ 18) h := (kgroups_cons (fun σ h => g3_6_eq k G σ h)).trans (g3_5_eq0 k G σ h)
@[simp] def g3_4 {R : Type} (k : Nat) (G : GX → GV → Heap → Option R) (v1 : GV) (v2 : GV) (v11 : GV) (v16 : GV) (h : Heap) : Option R := (kpick v11 v16 (.bool false)).bind fun v17 => g3_5 k G v1 v2 v17 h
theorem g3_4_eq0 {R : Type} (k : Nat) (G : GX → GV → Heap → Option R) (σ : GS) (h : Heap) : kgroup1 PP cfg NN HH 25 o3 (none, [12, 13]) σ h (fun σ h => g3_5 k G (σ 1) (σ 2) (σ 18) h) = g3_4 k G (σ 1) (σ 2) (σ 11) (σ 16) h := by kernel_rfl
theorem g3_4_eq {R : Type} (k : Nat) (G : GX → GV → Heap → Option R) (σ : GS) (h : Heap) : kgroups PP cfg NN HH 25 o3 [(none, [12, 13]), (some (13, true), [14, 15, 16, 17, 18]), (none, [19, 20])] σ h (fun σ h => G .nrm (σ 4) h) = g3_4 k G (σ 1) (σ 2) (σ 11) (σ 16) h := (kgroups_cons (fun σ h => g3_5_eq k G σ h)).trans (g3_4_eq0 k G σ h)
@[simp] def g3_3 {R : Type} (k : Nat) (G : GX → GV → Heap → Option R) (v1 : GV) (v2 : GV) (v11 : GV) (h : Heap) : Option R := bif tr true v11 then (kfa 0 v2).bind fun v13 => (kload1 h v13).bind fun v14 => (kbin .sub v14 (.int .i64 32)).bind fun v15 => (kbin .gtr v1 v15).bind fun v16 => g3_4 k G v1 v2 v11 v16 h else g3_4 k G v1 v2 v11 .un h
theorem g3_3_eq0 {R : Type} (k : Nat) (G : GX → GV → Heap → Option R) (σ : GS) (h : Heap) : kgroup1 PP cfg NN HH 25 o3 (some (6, true), [7, 8, 9, 10, 11]) σ h (fun σ h => g3_4 k G (σ 1) (σ 2) (σ 11) (σ 16) h) = g3_3 k G (σ 1) (σ 2) (σ 11) h := by kernel_rfl
theorem g3_3_eq {R : Type} (k : Nat) (G : GX → GV → Heap → Option R) (σ : GS) (h : Heap) : kgroups PP cfg NN HH 25 o3 [(some (6, true), [7, 8, 9, 10, 11]), (none, [12, 13]), (some (13, true), [14, 15, 16, 17, 18]), (none, [19, 20])] σ h (fun σ h => G .nrm (σ 4) h) = g3_3 k G (σ 1) (σ 2) (σ 11) h := (kgroups_cons (fun σ h => g3_4_eq k G σ h)).trans (g3_3_eq0 k G σ h)
@[simp] def g3_2 {R : Type} (k : Nat) (G : GX → GV → Heap → Option R) (v1 : GV) (v2 : GV) (v7 : GV) (v9 : GV) (h : Heap) : Option R := (kpick v7 v9 (.bool false)).bind fun v10 => g3_3 k G v1 v2 v10 h
theorem g3_2_eq0 {R : Type} (k : Nat) (G : GX → GV → Heap → Option R) (σ : GS) (h : Heap) : kgroup1 PP cfg NN HH 25 o3 (none, [5, 6]) σ h (fun σ h => g3_3 k G (σ 1) (σ 2) (σ 11) h) = g3_2 k G (σ 1) (σ 2) (σ 7) (σ 9) h := by kernel_rfl
theorem g3_2_eq {R : Type} (k : Nat) (G : GX → GV → Heap → Option R) (σ : GS) (h : Heap) : kgroups PP cfg NN HH 25 o3 [(none, [5, 6]), (some (6, true), [7, 8, 9, 10, 11]), (none, [12, 13]), (some (13, true), [14, 15, 16, 17, 18]), (none, [19, 20])] σ h (fun σ h => G .nrm (σ 4) h) = g3_2 k G (σ 1) (σ 2) (σ 7) (σ 9) h := (kgroups_cons (fun σ h => g3_3_eq k G σ h)).trans (g3_2_eq0 k G σ h)
@[simp] def g3_1 {R : Type} (k : Nat) (G : GX → GV → Heap → Option R) (v1 : GV) (v2 : GV) (v7 : GV) (h : Heap) : Option R := bif tr true v7 then (kN NN fn.impl_in [v1, (.int .i64 0), (.int .i64 1099511627776)] h).bind fun v9 => g3_2 k G v1 v2 v7 v9 h else g3_2 k G v1 v2 v7 .un h
theorem g3_1_eq0 {R : Type} (k : Nat) (G : GX → GV → Heap → Option R) (σ : GS) (h : Heap) : kgroup1 PP cfg NN HH 25 o3 (some (2, true), [3, 4]) σ h (fun σ h => g3_2 k G (σ 1) (σ 2) (σ 7) (σ 9) h) = g3_1 k G (σ 1) (σ 2) (σ 7) h := by kernel_rfl
theorem g3_1_eq {R : Type} (k : Nat) (G : GX → GV → Heap → Option R) (σ : GS) (h : Heap) : kgroups PP cfg NN HH 25 o3 [(some (2, true), [3, 4]), (none, [5, 6]), (some (6, true), [7, 8, 9, 10, 11]), (none, [12, 13]), (some (13, true), [14, 15, 16, 17, 18]), (none, [19, 20])] σ h (fun σ h => G .nrm (σ 4) h) = g3_1 k G (σ 1) (σ 2) (σ 7) h := (kgroups_cons (fun σ h => g3_2_eq k G σ h)).trans (g3_1_eq0 k G σ h)
@[simp] def g3_0 {R : Type} (k : Nat) (G : GX → GV → Heap → Option R) (v1 : GV) (v2 : GV) (h : Heap) : Option R := (kloadA 2 h v2).bind fun v5 => (kN NN fn.impl_WindowOk [v5] h).bind fun v6 => g3_1 k G v1 v2 v6 h
theorem g3_0_eq0 {R : Type} (k : Nat) (G : GX → GV → Heap → Option R) (σ : GS) (h : Heap) : kgroup1 PP cfg NN HH 25 o3 (none, [0, 1, 2]) σ h (fun σ h => g3_1 k G (σ 1) (σ 2) (σ 7) h) = g3_0 k G (σ 1) (σ 2) h := by kernel_rfl
theorem g3_0_eq {R : Type} (k : Nat) (G : GX → GV → Heap → Option R) (σ : GS) (h : Heap) : kgroups PP cfg NN HH 25 o3 [(none, [0, 1, 2]), (some (2, true), [3, 4]), (none, [5, 6]), (some (6, true), [7, 8, 9, 10, 11]), (none, [12, 13]), (some (13, true), [14, 15, 16, 17, 18]), (none, [19, 20])] σ h (fun σ h => G .nrm (σ 4) h) = g3_0 k G (σ 1) (σ 2) h := (kgroups_cons (fun σ h => g3_1_eq k G σ h)).trans (g3_0_eq0 k G σ h)
@[simp] def n3 {R : Type} (k : Nat) (G : GX → GV → Heap → Option R) (v1 : GV) (v2 : GV) (h : Heap) : Option R := g3_0 k G v1 v2 h
theorem n3_eq {R : Type} (k : Nat) (G : GX → GV → Heap → Option R) (σ : GS) (h : Heap) : KC k 25 c3 σ h (fun x σ h => G x (σ 4) h) = n3 k G (σ 1) (σ 2) h := (kregion_eq (id := 1) (draw := false) (ops := o3) (gs := [(none, [0, 1, 2]), (some (2, true), [3, 4]), (none, [5, 6]), (some (6, true), [7, 8, 9, 10, 11]), (none, [12, 13]), (some (13, true), [14, 15, 16, 17, 18]), (none, [19, 20])]) (by kernel_rfl) (by kernel_rfl) (by kernel_rfl)).trans (g3_0_eq k G σ h)
@[simp] def n1 {R : Type} (k : Nat) (G : GX → GV → Heap → Option R) (v1 : GV) (v2 : GV) (h : Heap) : Option R := n3 k (fun x v4 h => kx x (n2 k G v4 h) (G x v4 h)) v1 v2 h
theorem n1_eq {R : Type} (k : Nat) (G : GX → GV → Heap → Option R) (σ : GS) (h : Heap) : KC k 25 c1 σ h (fun x σ h => G x (σ 4) h) = n1 k G (σ 1) (σ 2) h := (kseq (b := c2) rfl (fun σ h => n2_eq k G σ h)).trans (n3_eq k (fun x v4 h => kx x (n2 k G v4 h) (G x v4 h)) σ h)
noncomputable def c4 : Code := cL c0
@[simp] def n0 {R : Type} (k : Nat) (G : GX → GV → Heap → Option R) (v0 : GV) (v1 : GV) (h : Heap) : Option R := kbox v0 h fun v2 h => n1 k G v1 v2 h
theorem n0_eq0 {R : Type} (k : Nat) (G : GX → GV → Heap → Option R) (σ : GS) (h : Heap) : KC k 25 c4 σ h (fun x σ h => kx x (n1 k G (σ 1) (σ 2) h) (G x (σ 4) h)) = n0 k G (σ 0) (σ 1) h := by kernel_rfl
theorem n0_eq {R : Type} (k : Nat) (G : GX → GV → Heap → Option R) (σ : GS) (h : Heap) : KC k 25 c0 σ h (fun x σ h => G x (σ 4) h) = n0 k G (σ 0) (σ 1) h := (kseq (b := c1) rfl (fun σ h => n1_eq k G σ h)).trans (n0_eq0 k G σ h)
def run {R : Type} (k : Nat) (a0 : GV) (a1 : GV) (h : Heap) (fin : GV → Heap → Option R) : Option R := n0 k (fun x v4 h => kend x (fin v4 h)) a0 a1 h
theorem run_eq {R : Type} (k : Nat) (a0 : GV) (a1 : GV) (h : Heap) (fin : GV → Heap → Option R) : kfun PP cfg NN HH k fn.impl_Fresh [a0, a1] h fin = run k a0 a1 h fin := (kfun_eq (nt := 25) (c := c0) (show PP.funcs[fn.impl_Fresh]? = some Try.f26 by kernel_rfl) (by kernel_rfl) (by kernel_rfl) (fun x σ h => by cases x <;> kernel_rfl)).trans (n0_eq k (fun x v4 h => kend x (fin v4 h)) _ h)
theorem gives {k : Nat} {a0 : GV} {a1 : GV} {v : GV} (e : run k a0 a1 [] finN = some v) : NN fn.impl_Fresh [a0, a1] = some v := nω_of (by kernel_rfl) ((run_eq k a0 a1 [] finN).trans e)
end S.impl_Fresh
/-! laws_FnExactFresh -/
namespace S.laws_FnExactFresh
noncomputable def c0 : Code := bodyOf Try.f7
@[simp] def n0 {R : Type} (k : Nat) (G : GX → GV → Heap → Option R) (v0 : GV) (v1 : GV) (h : Heap) : Option R := kbox v0 h fun v2 h => (kloadA 2 h v2).bind fun v9 => (kN NN fn.laws_szWindow [v9, (.int .i64 1048576)] h).bind fun v11 => (kbin .lss v11 (.int .i64 0)).bind fun v13 => kcond v13 (G .ret (.bool true) h) ((kloadA 2 h v2).bind fun v14 => (kN NN fn.laws_toWindow [v14] h).bind fun v15 => (kN NN fn.spec_Fresh [v15, v1] h).bind fun v17 => (kloadA 2 h v2).bind fun v18 => (kN NN fn.laws_toWindow [v18] h).bind fun v19 => kalloc [(.int .i64 0), .nils] h fun v7 h => (kstore 2 h v7 v19).bind fun h => (kloadA 2 h v7).bind fun v20 => (kN NN fn.impl_Fresh [v20, v1] h).bind fun v22 => (keqB .neq v22 v17).bind fun v25 => kcond v25 (G .ret (.bool false) h) ((kloadA 2 h v7).bind fun v26 => (kloadA 2 h v2).bind fun v27 => (kN NN fn.laws_toWindow [v27] h).bind fun v28 => (kN NN fn.laws_eqWindow [v26, v28] h).bind fun v29 => (kun .not v29).bind fun v30 => kcond v30 (G .ret (.bool false) h) (G .ret (.bool true) h)))
theorem n0_eq {R : Type} (k : Nat) (G : GX → GV → Heap → Option R) (σ : GS) (h : Heap) : KC k 31 c0 σ h (fun x σ h => G x (σ 4) h) = n0 k G (σ 0) (σ 1) h := by kernel_rfl
def run {R : Type} (k : Nat) (a0 : GV) (a1 : GV) (h : Heap) (fin : GV → Heap → Option R) : Option R := n0 k (fun x v4 h => kend x (fin v4 h)) a0 a1 h
theorem run_eq {R : Type} (k : Nat) (a0 : GV) (a1 : GV) (h : Heap) (fin : GV → Heap → Option R) : kfun PP cfg NN HH k fn.laws_FnExactFresh [a0, a1] h fin = run k a0 a1 h fin := (kfun_eq (nt := 31) (c := c0) (show PP.funcs[fn.laws_FnExactFresh]? = some Try.f7 by kernel_rfl) (by kernel_rfl) (by kernel_rfl) (fun x σ h => by cases x <;> kernel_rfl)).trans (n0_eq k (fun x v4 h => kend x (fin v4 h)) _ h)
theorem gives {k : Nat} {a0 : GV} {a1 : GV} {v : GV} (e : run k a0 a1 [] finN = some v) : NN fn.laws_FnExactFresh [a0, a1] = some v := nω_of (by kernel_rfl) ((run_eq k a0 a1 [] finN).trans e)
end S.laws_FnExactFresh
end
end Go.Proofs.Ytleeifecdjolhaa.G
