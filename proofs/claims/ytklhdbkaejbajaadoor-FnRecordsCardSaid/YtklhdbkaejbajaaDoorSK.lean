/- What these functions do, told for open values, out of the machine with continuations. Printed by a program of this session. -/
import Derived.Test.YtklhdbkaejbajaaDoorSC
import Derived.KernelRfl
namespace Go.Proofs.YtklhdbkaejbajaaDoor.G
open Go.RowKit
set_option linter.unusedVariables false
set_option maxRecDepth 100000
noncomputable section
variable {R : Type} (k : Nat)
/-! spec_l10Read -/
namespace S.spec_l10Read
noncomputable def c0 : Code := bodyOf Tryd.f145
noncomputable def c1 : Code := cR c0
noncomputable def c2 : Code := cR c1
noncomputable def c3 : Code := cR c2
noncomputable def c4 : Code := cR c3
@[simp] def n4 {R : Type} (k : Nat) (G : KT2 R) (v4 : GV) (h : Heap) : Option R := G .ret v4 (.bool true) h
theorem n4_eq (G : KT2 R) (σ : GS) (h : Heap) : KC k 44 c4 σ h (fun x σ h => G x (σ 2) (σ 3) h) = n4 k G (σ 4) h := by kernel_rfl
noncomputable def c5 : Code := cL c3
noncomputable def c6 : Code := cR c5
noncomputable def c7 : Code := cL c6
noncomputable def c8 : Code := cL c7
noncomputable def c9 : Code := cR c8
noncomputable def c10 : Code := cR c9
@[simp] def n10 {R : Type} (k : Nat) (G : KT6 R) (v0 v2 v3 v4 v5 v6 : GV) (h : Heap) : Option R := (kbin .add v6 (.int .i64 1)).bind fun v15 => G .nrm v0 v2 v3 v4 v5 v15 h
theorem n10_eq (G : KT6 R) (σ : GS) (h : Heap) : KC k 44 c10 σ h (fun x σ h => G x (σ 0) (σ 2) (σ 3) (σ 4) (σ 5) (σ 6) h) = n10 k G (σ 0) (σ 2) (σ 3) (σ 4) (σ 5) (σ 6) h := by kernel_rfl
noncomputable def c11 : Code := cL c9
noncomputable def c12 : Code := cL c11
noncomputable def c13 : Code := cR c12
@[simp] def n13 {R : Type} (k : Nat) (G : KT6 R) (v0 v2 v3 v4 v5 v6 : GV) (h : Heap) : Option R := (kslS v0 (some v5) (some v6) none).bind fun v30 => (kN NN fn.spec_l10Number [v30] h).bind fun v31 => (kxt 0 v31).bind fun v32 => (kxt 1 v31).bind fun v33 => (kun .not v33).bind fun v35 => kcond v35 (G .ret v0 v4 (.bool false) v4 v5 v6 h) ((gfill (fun i => some (i * 1, 1)) (zeros [(.int .i64 0)] 1) [(0, v32)]).bind fun c => kbs 1 1 c h fun v39 h => (kapp [(.int .i64 0)] 1 8 v4 v39 h).bind fun r => kr r fun v40 h => (kbin .add v6 (.int .i64 1)).bind fun v42 => G .nrm v0 v2 v3 v40 v42 v6 h)
theorem n13_eq (G : KT6 R) (σ : GS) (h : Heap) : KC k 44 c13 σ h (fun x σ h => G x (σ 0) (σ 2) (σ 3) (σ 4) (σ 5) (σ 6) h) = n13 k G (σ 0) (σ 2) (σ 3) (σ 4) (σ 5) (σ 6) h := by kernel_rfl
noncomputable def c14 : Code := cL c12
noncomputable def c15 : Code := cR c14
@[simp] def n15 {R : Type} (k : Nat) (G : KT6 R) (v0 v2 v3 v4 v5 v6 v25 : GV) (h : Heap) : Option R := kcond v25 (G (.ext 1) v0 v2 v3 v4 v5 v6 h) (G .nrm v0 v2 v3 v4 v5 v6 h)
theorem n15_eq (G : KT6 R) (σ : GS) (h : Heap) : KC k 44 c15 σ h (fun x σ h => G x (σ 0) (σ 2) (σ 3) (σ 4) (σ 5) (σ 6) h) = n15 k G (σ 0) (σ 2) (σ 3) (σ 4) (σ 5) (σ 6) (σ 25) h := by kernel_rfl
noncomputable def c16 : Code := cL c14
noncomputable def o16 : Array Oper := cO c16
@[simp] def g16_2 {R : Type} (k : Nat) (G : KT7 R) (v0 v2 v3 v4 v5 v6 v20 v24 : GV) (h : Heap) : Option R := (kpick v20 v24 (.bool false)).bind fun v25 => G .nrm v0 v2 v3 v4 v5 v6 v25 h
theorem g16_2_eq (G : KT7 R) (σ : GS) (h : Heap) : kgroups PP cfg NN HH 44 o16 [(none, [9])] σ h (fun σ h => G .nrm (σ 0) (σ 2) (σ 3) (σ 4) (σ 5) (σ 6) (σ 25) h) = g16_2 k G (σ 0) (σ 2) (σ 3) (σ 4) (σ 5) (σ 6) (σ 20) (σ 24) h := by kernel_rfl
@[simp] def g16_1 (G : KT7 R) (v0 v2 v3 v4 v5 v6 v20 : GV) (h : Heap) : Option R := bif tr true v20 then (kbyte v0 v6).bind fun v23 => (kbin .neq v23 (.int .u8 32)).bind fun v24 => g16_2 k G v0 v2 v3 v4 v5 v6 v20 v24 h else g16_2 k G v0 v2 v3 v4 v5 v6 v20 .un h
theorem g16_1_eq (G : KT7 R) (σ : GS) (h : Heap) : kgroups PP cfg NN HH 44 o16 [(some (4, true), [5, 6, 7, 8]), (none, [9])] σ h (fun σ h => G .nrm (σ 0) (σ 2) (σ 3) (σ 4) (σ 5) (σ 6) (σ 25) h) = g16_1 k G (σ 0) (σ 2) (σ 3) (σ 4) (σ 5) (σ 6) (σ 20) h := (kgroups_cons (fun σ h => g16_2_eq k G σ h)).trans (by kernel_rfl)
@[simp] def g16_0 (G : KT7 R) (v0 v2 v3 v4 v5 v6 : GV) (h : Heap) : Option R := (klenS v0).bind fun v18 => (kbin .lss v6 v18).bind fun v19 => g16_1 k G v0 v2 v3 v4 v5 v6 v19 h
theorem g16_0_eq (G : KT7 R) (σ : GS) (h : Heap) : kgroups PP cfg NN HH 44 o16 [(none, [0, 1, 2, 3, 4]), (some (4, true), [5, 6, 7, 8]), (none, [9])] σ h (fun σ h => G .nrm (σ 0) (σ 2) (σ 3) (σ 4) (σ 5) (σ 6) (σ 25) h) = g16_0 k G (σ 0) (σ 2) (σ 3) (σ 4) (σ 5) (σ 6) h := (kgroups_cons (fun σ h => g16_1_eq k G σ h)).trans (by kernel_rfl)
@[simp] def n16 (G : KT7 R) (v0 v2 v3 v4 v5 v6 : GV) (h : Heap) : Option R := g16_0 k G v0 v2 v3 v4 v5 v6 h
theorem n16_eq (G : KT7 R) (σ : GS) (h : Heap) : KC k 44 c16 σ h (fun x σ h => G x (σ 0) (σ 2) (σ 3) (σ 4) (σ 5) (σ 6) (σ 25) h) = n16 k G (σ 0) (σ 2) (σ 3) (σ 4) (σ 5) (σ 6) h := (kregion_eq (id := 6) (draw := false) (ops := o16) (gs := [(none, [0, 1, 2, 3, 4]), (some (4, true), [5, 6, 7, 8]), (none, [9])]) (by kernel_rfl) (by kernel_rfl) (by kernel_rfl)).trans (g16_0_eq k G σ h)
@[simp] def n14 (G : KT6 R) (v0 v2 v3 v4 v5 v6 : GV) (h : Heap) : Option R := n16 k (fun x v0 v2 v3 v4 v5 v6 v25 h => kx x (n15 k G v0 v2 v3 v4 v5 v6 v25 h) (G x v0 v2 v3 v4 v5 v6 h)) v0 v2 v3 v4 v5 v6 h
theorem n14_eq (G : KT6 R) (σ : GS) (h : Heap) : KC k 44 c14 σ h (fun x σ h => G x (σ 0) (σ 2) (σ 3) (σ 4) (σ 5) (σ 6) h) = n14 k G (σ 0) (σ 2) (σ 3) (σ 4) (σ 5) (σ 6) h := (kseq (b := c15) rfl (fun σ h => n15_eq k G σ h)).trans (n16_eq k (fun x v0 v2 v3 v4 v5 v6 v25 h => kx x (n15 k G v0 v2 v3 v4 v5 v6 v25 h) (G x v0 v2 v3 v4 v5 v6 h)) σ h)
@[simp] def n12 (G : KT6 R) (v0 v2 v3 v4 v5 v6 : GV) (h : Heap) : Option R := n14 k (fun x v0 v2 v3 v4 v5 v6 h => kx x (n13 k G v0 v2 v3 v4 v5 v6 h) (G x v0 v2 v3 v4 v5 v6 h)) v0 v2 v3 v4 v5 v6 h
theorem n12_eq (G : KT6 R) (σ : GS) (h : Heap) : KC k 44 c12 σ h (fun x σ h => G x (σ 0) (σ 2) (σ 3) (σ 4) (σ 5) (σ 6) h) = n12 k G (σ 0) (σ 2) (σ 3) (σ 4) (σ 5) (σ 6) h := (kseq (b := c13) rfl (fun σ h => n13_eq k G σ h)).trans (n14_eq k (fun x v0 v2 v3 v4 v5 v6 h => kx x (n13 k G v0 v2 v3 v4 v5 v6 h) (G x v0 v2 v3 v4 v5 v6 h)) σ h)
@[simp] def n11 (G : KT6 R) (v0 v2 v3 v4 v5 v6 : GV) (h : Heap) : Option R := n12 k (fun x v0 v2 v3 v4 v5 v6 h => kb 1 x fun x => G x v0 v2 v3 v4 v5 v6 h) v0 v2 v3 v4 v5 v6 h
theorem n11_eq (G : KT6 R) (σ : GS) (h : Heap) : KC k 44 c11 σ h (fun x σ h => G x (σ 0) (σ 2) (σ 3) (σ 4) (σ 5) (σ 6) h) = n11 k G (σ 0) (σ 2) (σ 3) (σ 4) (σ 5) (σ 6) h := (kblock_eq (a := c12) rfl).trans (n12_eq k (fun x v0 v2 v3 v4 v5 v6 h => kb 1 x fun x => G x v0 v2 v3 v4 v5 v6 h) σ h)
@[simp] def n9 (G : KT6 R) (v0 v2 v3 v4 v5 v6 : GV) (h : Heap) : Option R := n11 k (fun x v0 v2 v3 v4 v5 v6 h => kx x (n10 k G v0 v2 v3 v4 v5 v6 h) (G x v0 v2 v3 v4 v5 v6 h)) v0 v2 v3 v4 v5 v6 h
theorem n9_eq (G : KT6 R) (σ : GS) (h : Heap) : KC k 44 c9 σ h (fun x σ h => G x (σ 0) (σ 2) (σ 3) (σ 4) (σ 5) (σ 6) h) = n9 k G (σ 0) (σ 2) (σ 3) (σ 4) (σ 5) (σ 6) h := (kseq (b := c10) rfl (fun σ h => n10_eq k G σ h)).trans (n11_eq k (fun x v0 v2 v3 v4 v5 v6 h => kx x (n10 k G v0 v2 v3 v4 v5 v6 h) (G x v0 v2 v3 v4 v5 v6 h)) σ h)
noncomputable def c17 : Code := cL c8
@[simp] def n8 (G : KT6 R) (v0 v2 v3 v4 v5 v6 : GV) (h : Heap) : Option R := (klenS v0).bind fun v12 => (kbin .leq v6 v12).bind fun v13 => kcond v13 (n9 k G v0 v2 v3 v4 v5 v6 h) (G (.ext 0) v0 v2 v3 v4 v5 v6 h)
theorem n8_eq (G : KT6 R) (σ : GS) (h : Heap) : KC k 44 c8 σ h (fun x σ h => G x (σ 0) (σ 2) (σ 3) (σ 4) (σ 5) (σ 6) h) = n8 k G (σ 0) (σ 2) (σ 3) (σ 4) (σ 5) (σ 6) h := (kseq (a := c17) (b := c9) rfl (fun σ h => n9_eq k G σ h)).trans (by kernel_rfl)
def l7 {R : Type} (k : Nat) (G : KT3 R) : Nat → GV → GV → GV → GV → GV → GV → Heap → Option R
  | 0, _, _, _, _, _, _, _ => none
  | r + 1, v0, v2, v3, v4, v5, v6, h => n8 k (fun x v0 v2 v3 v4 v5 v6 h => kx x (l7 k G r v0 v2 v3 v4 v5 v6 h) (G x v2 v3 v4 h)) v0 v2 v3 v4 v5 v6 h
theorem l7_eq {R : Type} (k : Nat) (G : KT3 R) : ∀ (r : Nat) (σ : GS) (h : Heap), kloop (fun σ h K => KC k 44 c8 σ h K) r σ h (fun x σ h => G x (σ 2) (σ 3) (σ 4) h) = l7 k G r (σ 0) (σ 2) (σ 3) (σ 4) (σ 5) (σ 6) h
  | 0, _, _ => rfl
  | r + 1, σ, h => (kloop_eq (fun σ h => l7_eq k G r σ h)).trans (n8_eq k (fun x v0 v2 v3 v4 v5 v6 h => kx x (l7 k G r v0 v2 v3 v4 v5 v6 h) (G x v2 v3 v4 h)) σ h)
@[simp] def n7 (G : KT3 R) (v0 v2 v3 v4 v5 v6 : GV) (h : Heap) : Option R := l7 k G k v0 v2 v3 v4 v5 v6 h
theorem n7_eq (G : KT3 R) (σ : GS) (h : Heap) : KC k 44 c7 σ h (fun x σ h => G x (σ 2) (σ 3) (σ 4) h) = n7 k G (σ 0) (σ 2) (σ 3) (σ 4) (σ 5) (σ 6) h := (kloopc_eq (a := c8) rfl).trans (l7_eq k G k σ h)
@[simp] def n6 (G : KT3 R) (v0 v2 v3 v4 v5 v6 : GV) (h : Heap) : Option R := n7 k (fun x v2 v3 v4 h => kb 0 x fun x => G x v2 v3 v4 h) v0 v2 v3 v4 v5 v6 h
theorem n6_eq (G : KT3 R) (σ : GS) (h : Heap) : KC k 44 c6 σ h (fun x σ h => G x (σ 2) (σ 3) (σ 4) h) = n6 k G (σ 0) (σ 2) (σ 3) (σ 4) (σ 5) (σ 6) h := (kblock_eq (a := c7) rfl).trans (n7_eq k (fun x v2 v3 v4 h => kb 0 x fun x => G x v2 v3 v4 h) σ h)
noncomputable def c18 : Code := cL c5
@[simp] def n5 (G : KT3 R) (v0 v2 v3 v4 v5 : GV) (h : Heap) : Option R := n6 k G v0 v2 v3 v4 v5 (.int .i64 0) h
theorem n5_eq (G : KT3 R) (σ : GS) (h : Heap) : KC k 44 c5 σ h (fun x σ h => G x (σ 2) (σ 3) (σ 4) h) = n5 k G (σ 0) (σ 2) (σ 3) (σ 4) (σ 5) h := (kseq (a := c18) (b := c6) rfl (fun σ h => n6_eq k G σ h)).trans (by kernel_rfl)
@[simp] def n3 (G : KT2 R) (v0 v2 v3 v4 v5 : GV) (h : Heap) : Option R := n5 k (fun x v2 v3 v4 h => kx x (n4 k G v4 h) (G x v2 v3 h)) v0 v2 v3 v4 v5 h
theorem n3_eq (G : KT2 R) (σ : GS) (h : Heap) : KC k 44 c3 σ h (fun x σ h => G x (σ 2) (σ 3) h) = n3 k G (σ 0) (σ 2) (σ 3) (σ 4) (σ 5) h := (kseq (b := c4) rfl (fun σ h => n4_eq k G σ h)).trans (n5_eq k (fun x v2 v3 v4 h => kx x (n4 k G v4 h) (G x v2 v3 h)) σ h)
noncomputable def c19 : Code := cL c2
@[simp] def n2 (G : KT2 R) (v0 v2 v3 v4 : GV) (h : Heap) : Option R := n3 k G v0 v2 v3 v4 (.int .i64 0) h
theorem n2_eq (G : KT2 R) (σ : GS) (h : Heap) : KC k 44 c2 σ h (fun x σ h => G x (σ 2) (σ 3) h) = n2 k G (σ 0) (σ 2) (σ 3) (σ 4) h := (kseq (a := c19) (b := c3) rfl (fun σ h => n3_eq k G σ h)).trans (by kernel_rfl)
noncomputable def c20 : Code := cL c1
@[simp] def n1 (G : KT2 R) (v0 v2 v3 : GV) (h : Heap) : Option R := n2 k G v0 v2 v3 .emp h
theorem n1_eq (G : KT2 R) (σ : GS) (h : Heap) : KC k 44 c1 σ h (fun x σ h => G x (σ 2) (σ 3) h) = n1 k G (σ 0) (σ 2) (σ 3) h := (kseq (a := c20) (b := c2) rfl (fun σ h => n2_eq k G σ h)).trans (by kernel_rfl)
noncomputable def c21 : Code := cL c0
@[simp] def n0 (G : KT2 R) (v0 : GV) (h : Heap) : Option R := n1 k G v0 .nils (.bool false) h
theorem n0_eq (G : KT2 R) (σ : GS) (h : Heap) : KC k 44 c0 σ h (fun x σ h => G x (σ 2) (σ 3) h) = n0 k G (σ 0) h := (kseq (a := c21) (b := c1) rfl (fun σ h => n1_eq k G σ h)).trans (by kernel_rfl)
def run {R : Type} (k : Nat) (a0 : GV) (h : Heap) (fin : GV → Heap → Option R) : Option R := n0 k (fun x v2 v3 h => kend x (fin (.tup [v2, v3]) h)) a0 h
theorem run_eq {R : Type} (k : Nat) (a0 : GV) (h : Heap) (fin : GV → Heap → Option R) : kfun PP cfg NN HH k fn.spec_l10Read [a0] h fin = run k a0 h fin := (kfun_eq (nt := 44) (c := c0) (show PP.funcs[fn.spec_l10Read]? = some Tryd.f145 by kernel_rfl) (by kernel_rfl) (by kernel_rfl) (fun x σ h => by cases x <;> kernel_rfl)).trans (n0_eq k (fun x v2 v3 h => kend x (fin (.tup [v2, v3]) h)) _ h)
theorem gives {k : Nat} {a0 : GV} {v : GV} (e : run k a0 [] finN = some v) : NN fn.spec_l10Read [a0] = some v := nω_of (by kernel_rfl) ((run_eq k a0 [] finN).trans e)
end S.spec_l10Read
/-! impl_takeRecord -/
namespace S.impl_takeRecord
noncomputable def c0 : Code := bodyOf Tryd.f80
noncomputable def c1 : Code := cR c0
noncomputable def c2 : Code := cR c1
noncomputable def c3 : Code := cR c2
noncomputable def c4 : Code := cR c3
noncomputable def c5 : Code := cR c4
@[simp] def n5 {R : Type} (k : Nat) (G : KT2 R) (v0 v5 v10 : GV) (h : Heap) : Option R := (kslS v5 none (some v10) none).bind fun v41 => (kslS v5 none (some v10) none).bind fun v45 => (kN NN fn.impl_Record [v45] h).bind fun v46 => (kN NN fn.strings_HasPrefix [v0, v46] h).bind fun v47 => G .ret v41 v47 h
theorem n5_eq (G : KT2 R) (σ : GS) (h : Heap) : KC k 48 c5 σ h (fun x σ h => G x (σ 2) (σ 3) h) = n5 k G (σ 0) (σ 5) (σ 10) h := by kernel_rfl
noncomputable def c6 : Code := cL c4
noncomputable def c7 : Code := cR c6
@[simp] def n7 {R : Type} (k : Nat) (G : KT5 R) (v0 v2 v3 v5 v10 v38 : GV) (h : Heap) : Option R := kcond v38 (G .ret v0 (.str { data := #[] }) (.bool false) v5 v10 h) (G .nrm v0 v2 v3 v5 v10 h)
theorem n7_eq (G : KT5 R) (σ : GS) (h : Heap) : KC k 48 c7 σ h (fun x σ h => G x (σ 0) (σ 2) (σ 3) (σ 5) (σ 10) h) = n7 k G (σ 0) (σ 2) (σ 3) (σ 5) (σ 10) (σ 38) h := by kernel_rfl
noncomputable def c8 : Code := cL c6
noncomputable def o8 : Array Oper := cO c8
@[simp] def g8_2 {R : Type} (k : Nat) (G : KT6 R) (v0 v2 v3 v5 v10 v31 v37 : GV) (h : Heap) : Option R := (kpick v31 (.bool true) v37).bind fun v38 => G .nrm v0 v2 v3 v5 v10 v38 h
theorem g8_2_eq (G : KT6 R) (σ : GS) (h : Heap) : kgroups PP cfg NN HH 48 o8 [(none, [9])] σ h (fun σ h => G .nrm (σ 0) (σ 2) (σ 3) (σ 5) (σ 10) (σ 38) h) = g8_2 k G (σ 0) (σ 2) (σ 3) (σ 5) (σ 10) (σ 31) (σ 37) h := by kernel_rfl
@[simp] def g8_1 (G : KT6 R) (v0 v2 v3 v5 v10 v31 : GV) (h : Heap) : Option R := bif tr false v31 then (klenS v5).bind fun v34 => (gmin (.int .i64 5000) v34).bind fun v35 => (kN NN fn.impl_in [v10, (.int .i64 0), v35] h).bind fun v36 => (kun .not v36).bind fun v37 => g8_2 k G v0 v2 v3 v5 v10 v31 v37 h else g8_2 k G v0 v2 v3 v5 v10 v31 .un h
theorem g8_1_eq (G : KT6 R) (σ : GS) (h : Heap) : kgroups PP cfg NN HH 48 o8 [(some (2, false), [3, 4, 5, 6, 7, 8]), (none, [9])] σ h (fun σ h => G .nrm (σ 0) (σ 2) (σ 3) (σ 5) (σ 10) (σ 38) h) = g8_1 k G (σ 0) (σ 2) (σ 3) (σ 5) (σ 10) (σ 31) h := (kgroups_cons (fun σ h => g8_2_eq k G σ h)).trans (by kernel_rfl)
@[simp] def g8_0 (G : KT6 R) (v0 v2 v3 v5 v10 v11 : GV) (h : Heap) : Option R := (kun .not v11).bind fun v30 => g8_1 k G v0 v2 v3 v5 v10 v30 h
theorem g8_0_eq (G : KT6 R) (σ : GS) (h : Heap) : kgroups PP cfg NN HH 48 o8 [(none, [0, 1, 2]), (some (2, false), [3, 4, 5, 6, 7, 8]), (none, [9])] σ h (fun σ h => G .nrm (σ 0) (σ 2) (σ 3) (σ 5) (σ 10) (σ 38) h) = g8_0 k G (σ 0) (σ 2) (σ 3) (σ 5) (σ 10) (σ 11) h := (kgroups_cons (fun σ h => g8_1_eq k G σ h)).trans (by kernel_rfl)
@[simp] def n8 (G : KT6 R) (v0 v2 v3 v5 v10 v11 : GV) (h : Heap) : Option R := g8_0 k G v0 v2 v3 v5 v10 v11 h
theorem n8_eq (G : KT6 R) (σ : GS) (h : Heap) : KC k 48 c8 σ h (fun x σ h => G x (σ 0) (σ 2) (σ 3) (σ 5) (σ 10) (σ 38) h) = n8 k G (σ 0) (σ 2) (σ 3) (σ 5) (σ 10) (σ 11) h := (kregion_eq (id := 4) (draw := false) (ops := o8) (gs := [(none, [0, 1, 2]), (some (2, false), [3, 4, 5, 6, 7, 8]), (none, [9])]) (by kernel_rfl) (by kernel_rfl) (by kernel_rfl)).trans (g8_0_eq k G σ h)
@[simp] def n6 (G : KT5 R) (v0 v2 v3 v5 v10 v11 : GV) (h : Heap) : Option R := n8 k (fun x v0 v2 v3 v5 v10 v38 h => kx x (n7 k G v0 v2 v3 v5 v10 v38 h) (G x v0 v2 v3 v5 v10 h)) v0 v2 v3 v5 v10 v11 h
theorem n6_eq (G : KT5 R) (σ : GS) (h : Heap) : KC k 48 c6 σ h (fun x σ h => G x (σ 0) (σ 2) (σ 3) (σ 5) (σ 10) h) = n6 k G (σ 0) (σ 2) (σ 3) (σ 5) (σ 10) (σ 11) h := (kseq (b := c7) rfl (fun σ h => n7_eq k G σ h)).trans (n8_eq k (fun x v0 v2 v3 v5 v10 v38 h => kx x (n7 k G v0 v2 v3 v5 v10 v38 h) (G x v0 v2 v3 v5 v10 h)) σ h)
@[simp] def n4 (G : KT2 R) (v0 v2 v3 v5 v10 v11 : GV) (h : Heap) : Option R := n6 k (fun x v0 v2 v3 v5 v10 h => kx x (n5 k G v0 v5 v10 h) (G x v2 v3 h)) v0 v2 v3 v5 v10 v11 h
theorem n4_eq (G : KT2 R) (σ : GS) (h : Heap) : KC k 48 c4 σ h (fun x σ h => G x (σ 2) (σ 3) h) = n4 k G (σ 0) (σ 2) (σ 3) (σ 5) (σ 10) (σ 11) h := (kseq (b := c5) rfl (fun σ h => n5_eq k G σ h)).trans (n6_eq k (fun x v0 v2 v3 v5 v10 h => kx x (n5 k G v0 v5 v10 h) (G x v2 v3 h)) σ h)
noncomputable def c9 : Code := cL c3
@[simp] def n3 (G : KT2 R) (v0 v2 v3 v5 v7 : GV) (h : Heap) : Option R := (kN NN fn.impl_numberOf [v7] h).bind fun v26 => (kxt 0 v26).bind fun v27 => (kxt 1 v26).bind fun v28 => n4 k G v0 v2 v3 v5 v27 v28 h
theorem n3_eq (G : KT2 R) (σ : GS) (h : Heap) : KC k 48 c3 σ h (fun x σ h => G x (σ 2) (σ 3) h) = n3 k G (σ 0) (σ 2) (σ 3) (σ 5) (σ 7) h := (kseq (a := c9) (b := c4) rfl (fun σ h => n4_eq k G σ h)).trans (by kernel_rfl)
noncomputable def c10 : Code := cL c2
@[simp] def n2 (G : KT2 R) (v0 v2 v3 v4 v5 : GV) (h : Heap) : Option R := (kN NN fn.strings_Cut [v4, (.str { data := #[32] })] h).bind fun v20 => (kxt 0 v20).bind fun v21 => (kxt 1 v20).bind fun v22 => (kxt 2 v20).bind fun v23 => n3 k G v0 v2 v3 v5 v21 h
theorem n2_eq (G : KT2 R) (σ : GS) (h : Heap) : KC k 48 c2 σ h (fun x σ h => G x (σ 2) (σ 3) h) = n2 k G (σ 0) (σ 2) (σ 3) (σ 4) (σ 5) h := (kseq (a := c10) (b := c3) rfl (fun σ h => n3_eq k G σ h)).trans (by kernel_rfl)
noncomputable def c11 : Code := cL c1
@[simp] def n1 (G : KT2 R) (v0 v2 v3 : GV) (h : Heap) : Option R := (kN NN fn.strings_Cut [v0, (.str { data := #[10] })] h).bind fun v14 => (kxt 0 v14).bind fun v15 => (kxt 1 v14).bind fun v16 => (kxt 2 v14).bind fun v17 => n2 k G v0 v2 v3 v15 v16 h
theorem n1_eq (G : KT2 R) (σ : GS) (h : Heap) : KC k 48 c1 σ h (fun x σ h => G x (σ 2) (σ 3) h) = n1 k G (σ 0) (σ 2) (σ 3) h := (kseq (a := c11) (b := c2) rfl (fun σ h => n2_eq k G σ h)).trans (by kernel_rfl)
noncomputable def c12 : Code := cL c0
@[simp] def n0 (G : KT2 R) (v0 : GV) (h : Heap) : Option R := n1 k G v0 (.str { data := #[] }) (.bool false) h
theorem n0_eq (G : KT2 R) (σ : GS) (h : Heap) : KC k 48 c0 σ h (fun x σ h => G x (σ 2) (σ 3) h) = n0 k G (σ 0) h := (kseq (a := c12) (b := c1) rfl (fun σ h => n1_eq k G σ h)).trans (by kernel_rfl)
def run {R : Type} (k : Nat) (a0 : GV) (h : Heap) (fin : GV → Heap → Option R) : Option R := n0 k (fun x v2 v3 h => kend x (fin (.tup [v2, v3]) h)) a0 h
theorem run_eq {R : Type} (k : Nat) (a0 : GV) (h : Heap) (fin : GV → Heap → Option R) : kfun PP cfg NN HH k fn.impl_takeRecord [a0] h fin = run k a0 h fin := (kfun_eq (nt := 48) (c := c0) (show PP.funcs[fn.impl_takeRecord]? = some Tryd.f80 by kernel_rfl) (by kernel_rfl) (by kernel_rfl) (fun x σ h => by cases x <;> kernel_rfl)).trans (n0_eq k (fun x v2 v3 h => kend x (fin (.tup [v2, v3]) h)) _ h)
theorem gives {k : Nat} {a0 : GV} {v : GV} (e : run k a0 [] finN = some v) : NN fn.impl_takeRecord [a0] = some v := nω_of (by kernel_rfl) ((run_eq k a0 [] finN).trans e)
end S.impl_takeRecord
/-! spec_l16Record -/
namespace S.spec_l16Record
noncomputable def c0 : Code := bodyOf Tryd.f79
noncomputable def c1 : Code := cR c0
noncomputable def c2 : Code := cR c1
noncomputable def c3 : Code := cR c2
noncomputable def c4 : Code := cR c3
noncomputable def c5 : Code := cR c4
noncomputable def c6 : Code := cR c5
noncomputable def c7 : Code := cR c6
noncomputable def c8 : Code := cR c7
noncomputable def c9 : Code := cR c8
@[simp] def n9 {R : Type} (k : Nat) (G : KT2 R) (v8 v9 : GV) (h : Heap) : Option R := (klenS v9).bind fun v91 => G .ret v8 v91 h
theorem n9_eq (G : KT2 R) (σ : GS) (h : Heap) : KC k 92 c9 σ h (fun x σ h => G x (σ 2) (σ 3) h) = n9 k G (σ 8) (σ 9) h := by kernel_rfl
noncomputable def c10 : Code := cL c8
noncomputable def c11 : Code := cR c10
@[simp] def n11 {R : Type} (k : Nat) (G : KT4 R) (v2 v3 v8 v9 v88 : GV) (h : Heap) : Option R := kcond v88 (G .ret (.str { data := #[] }) (.int .i64 0) v8 v9 h) (G .nrm v2 v3 v8 v9 h)
theorem n11_eq (G : KT4 R) (σ : GS) (h : Heap) : KC k 92 c11 σ h (fun x σ h => G x (σ 2) (σ 3) (σ 8) (σ 9) h) = n11 k G (σ 2) (σ 3) (σ 8) (σ 9) (σ 88) h := by kernel_rfl
noncomputable def c12 : Code := cL c10
noncomputable def o12 : Array Oper := cO c12
@[simp] def g12_2 {R : Type} (k : Nat) (G : KT5 R) (v2 v3 v8 v9 v81 v87 : GV) (h : Heap) : Option R := (kpick v81 (.bool true) v87).bind fun v88 => G .nrm v2 v3 v8 v9 v88 h
theorem g12_2_eq (G : KT5 R) (σ : GS) (h : Heap) : kgroups PP cfg NN HH 92 o12 [(none, [12])] σ h (fun σ h => G .nrm (σ 2) (σ 3) (σ 8) (σ 9) (σ 88) h) = g12_2 k G (σ 2) (σ 3) (σ 8) (σ 9) (σ 81) (σ 87) h := by kernel_rfl
@[simp] def g12_1 (G : KT5 R) (v0 v2 v3 v8 v9 v81 : GV) (h : Heap) : Option R := bif tr false v81 then (klenS v9).bind fun v84 => (kslS v0 none (some v84) none).bind fun v85 => (kbin .neq v85 v9).bind fun v87 => g12_2 k G v2 v3 v8 v9 v81 v87 h else g12_2 k G v2 v3 v8 v9 v81 .un h
theorem g12_1_eq (G : KT5 R) (σ : GS) (h : Heap) : kgroups PP cfg NN HH 92 o12 [(some (5, false), [6, 7, 8, 9, 10, 11]), (none, [12])] σ h (fun σ h => G .nrm (σ 2) (σ 3) (σ 8) (σ 9) (σ 88) h) = g12_1 k G (σ 0) (σ 2) (σ 3) (σ 8) (σ 9) (σ 81) h := (kgroups_cons (fun σ h => g12_2_eq k G σ h)).trans (by kernel_rfl)
@[simp] def g12_0 (G : KT5 R) (v0 v2 v3 v8 v9 : GV) (h : Heap) : Option R := (klenS v9).bind fun v77 => (klenS v0).bind fun v79 => (kbin .gtr v77 v79).bind fun v80 => g12_1 k G v0 v2 v3 v8 v9 v80 h
theorem g12_0_eq (G : KT5 R) (σ : GS) (h : Heap) : kgroups PP cfg NN HH 92 o12 [(none, [0, 1, 2, 3, 4, 5]), (some (5, false), [6, 7, 8, 9, 10, 11]), (none, [12])] σ h (fun σ h => G .nrm (σ 2) (σ 3) (σ 8) (σ 9) (σ 88) h) = g12_0 k G (σ 0) (σ 2) (σ 3) (σ 8) (σ 9) h := (kgroups_cons (fun σ h => g12_1_eq k G σ h)).trans (by kernel_rfl)
@[simp] def n12 (G : KT5 R) (v0 v2 v3 v8 v9 : GV) (h : Heap) : Option R := g12_0 k G v0 v2 v3 v8 v9 h
theorem n12_eq (G : KT5 R) (σ : GS) (h : Heap) : KC k 92 c12 σ h (fun x σ h => G x (σ 2) (σ 3) (σ 8) (σ 9) (σ 88) h) = n12 k G (σ 0) (σ 2) (σ 3) (σ 8) (σ 9) h := (kregion_eq (id := 10) (draw := false) (ops := o12) (gs := [(none, [0, 1, 2, 3, 4, 5]), (some (5, false), [6, 7, 8, 9, 10, 11]), (none, [12])]) (by kernel_rfl) (by kernel_rfl) (by kernel_rfl)).trans (g12_0_eq k G σ h)
@[simp] def n10 (G : KT4 R) (v0 v2 v3 v8 v9 : GV) (h : Heap) : Option R := n12 k (fun x v2 v3 v8 v9 v88 h => kx x (n11 k G v2 v3 v8 v9 v88 h) (G x v2 v3 v8 v9 h)) v0 v2 v3 v8 v9 h
theorem n10_eq (G : KT4 R) (σ : GS) (h : Heap) : KC k 92 c10 σ h (fun x σ h => G x (σ 2) (σ 3) (σ 8) (σ 9) h) = n10 k G (σ 0) (σ 2) (σ 3) (σ 8) (σ 9) h := (kseq (b := c11) rfl (fun σ h => n11_eq k G σ h)).trans (n12_eq k (fun x v2 v3 v8 v9 v88 h => kx x (n11 k G v2 v3 v8 v9 v88 h) (G x v2 v3 v8 v9 h)) σ h)
@[simp] def n8 (G : KT2 R) (v0 v2 v3 v8 v9 : GV) (h : Heap) : Option R := n10 k (fun x v2 v3 v8 v9 h => kx x (n9 k G v8 v9 h) (G x v2 v3 h)) v0 v2 v3 v8 v9 h
theorem n8_eq (G : KT2 R) (σ : GS) (h : Heap) : KC k 92 c8 σ h (fun x σ h => G x (σ 2) (σ 3) h) = n8 k G (σ 0) (σ 2) (σ 3) (σ 8) (σ 9) h := (kseq (b := c9) rfl (fun σ h => n9_eq k G σ h)).trans (n10_eq k (fun x v2 v3 v8 v9 h => kx x (n9 k G v8 v9 h) (G x v2 v3 h)) σ h)
noncomputable def c13 : Code := cL c7
@[simp] def n7 (G : KT2 R) (v0 v2 v3 v8 : GV) (h : Heap) : Option R := (kN NN fn.spec_Record [v8] h).bind fun v75 => n8 k G v0 v2 v3 v8 v75 h
theorem n7_eq (G : KT2 R) (σ : GS) (h : Heap) : KC k 92 c7 σ h (fun x σ h => G x (σ 2) (σ 3) h) = n7 k G (σ 0) (σ 2) (σ 3) (σ 8) h := (kseq (a := c13) (b := c8) rfl (fun σ h => n8_eq k G σ h)).trans (by kernel_rfl)
noncomputable def c14 : Code := cL c6
@[simp] def n6 (G : KT2 R) (v0 v2 v3 v5 v7 : GV) (h : Heap) : Option R := (kia 1 v5 (.int .i64 0)).bind fun v70 => (kload1 h v70).bind fun v71 => (kbin .add v7 v71).bind fun v72 => (kslS v0 (some v7) (some v72) none).bind fun v73 => n7 k G v0 v2 v3 v73 h
theorem n6_eq (G : KT2 R) (σ : GS) (h : Heap) : KC k 92 c6 σ h (fun x σ h => G x (σ 2) (σ 3) h) = n6 k G (σ 0) (σ 2) (σ 3) (σ 5) (σ 7) h := (kseq (a := c14) (b := c7) rfl (fun σ h => n7_eq k G σ h)).trans (by kernel_rfl)
noncomputable def c15 : Code := cL c5
noncomputable def c16 : Code := cR c15
@[simp] def n16 {R : Type} (k : Nat) (G : KT5 R) (v0 v2 v3 v5 v7 v65 : GV) (h : Heap) : Option R := kcond v65 (G .ret v0 (.str { data := #[] }) (.int .i64 0) v5 v7 h) (G .nrm v0 v2 v3 v5 v7 h)
theorem n16_eq (G : KT5 R) (σ : GS) (h : Heap) : KC k 92 c16 σ h (fun x σ h => G x (σ 0) (σ 2) (σ 3) (σ 5) (σ 7) h) = n16 k G (σ 0) (σ 2) (σ 3) (σ 5) (σ 7) (σ 65) h := by kernel_rfl
noncomputable def c17 : Code := cL c15
noncomputable def o17 : Array Oper := cO c17
@[simp] def g17_10 {R : Type} (k : Nat) (G : KT6 R) (v0 v2 v3 v5 v7 v57 v64 : GV) (h : Heap) : Option R := (kpick v57 (.bool true) v64).bind fun v65 => G .nrm v0 v2 v3 v5 v7 v65 h
theorem g17_10_eq (G : KT6 R) (σ : GS) (h : Heap) : kgroups PP cfg NN HH 92 o17 [(none, [34])] σ h (fun σ h => G .nrm (σ 0) (σ 2) (σ 3) (σ 5) (σ 7) (σ 65) h) = g17_10 k G (σ 0) (σ 2) (σ 3) (σ 5) (σ 7) (σ 57) (σ 64) h := by kernel_rfl
@[simp] def g17_9 (G : KT6 R) (v0 v2 v3 v5 v7 v57 v60 v63 : GV) (h : Heap) : Option R := bif tr false v57 then (kpick v60 v63 (.bool false)).bind fun v64 => g17_10 k G v0 v2 v3 v5 v7 v57 v64 h else g17_10 k G v0 v2 v3 v5 v7 v57 .un h
theorem g17_9_eq (G : KT6 R) (σ : GS) (h : Heap) : kgroups PP cfg NN HH 92 o17 [(some (26, false), [33]), (none, [34])] σ h (fun σ h => G .nrm (σ 0) (σ 2) (σ 3) (σ 5) (σ 7) (σ 65) h) = g17_9 k G (σ 0) (σ 2) (σ 3) (σ 5) (σ 7) (σ 57) (σ 60) (σ 63) h := (kgroups_cons (fun σ h => g17_10_eq k G σ h)).trans (by kernel_rfl)
@[simp] def g17_8 (G : KT6 R) (v0 v2 v3 v5 v7 v57 v60 : GV) (h : Heap) : Option R := bif tr true v60 then (klen v5).bind fun v62 => (kbin .lss v62 (.int .i64 1)).bind fun v63 => g17_9 k G v0 v2 v3 v5 v7 v57 v60 v63 h else g17_9 k G v0 v2 v3 v5 v7 v57 v60 .un h
theorem g17_8_eq (G : KT6 R) (σ : GS) (h : Heap) : kgroups PP cfg NN HH 92 o17 [(some (29, true), [30, 31, 32]), (some (26, false), [33]), (none, [34])] σ h (fun σ h => G .nrm (σ 0) (σ 2) (σ 3) (σ 5) (σ 7) (σ 65) h) = g17_8 k G (σ 0) (σ 2) (σ 3) (σ 5) (σ 7) (σ 57) (σ 60) h := (kgroups_cons (fun σ h => g17_9_eq k G σ h)).trans (by kernel_rfl)
@[simp] def g17_7 (G : KT6 R) (v0 v2 v3 v5 v6 v7 v57 : GV) (h : Heap) : Option R := bif tr false v57 then (kun .not v6).bind fun v59 => g17_8 k G v0 v2 v3 v5 v7 v57 v59 h else g17_8 k G v0 v2 v3 v5 v7 v57 .un h
theorem g17_7_eq (G : KT6 R) (σ : GS) (h : Heap) : kgroups PP cfg NN HH 92 o17 [(some (26, false), [27, 28, 29]), (some (29, true), [30, 31, 32]), (some (26, false), [33]), (none, [34])] σ h (fun σ h => G .nrm (σ 0) (σ 2) (σ 3) (σ 5) (σ 7) (σ 65) h) = g17_7 k G (σ 0) (σ 2) (σ 3) (σ 5) (σ 6) (σ 7) (σ 57) h := (kgroups_cons (fun σ h => g17_8_eq k G σ h)).trans (by kernel_rfl)
@[simp] def g17_6 (G : KT6 R) (v0 v2 v3 v5 v6 v7 v47 v55 : GV) (h : Heap) : Option R := (kpick v47 (.bool true) v55).bind fun v56 => g17_7 k G v0 v2 v3 v5 v6 v7 v56 h
theorem g17_6_eq (G : KT6 R) (σ : GS) (h : Heap) : kgroups PP cfg NN HH 92 o17 [(none, [25, 26]), (some (26, false), [27, 28, 29]), (some (29, true), [30, 31, 32]), (some (26, false), [33]), (none, [34])] σ h (fun σ h => G .nrm (σ 0) (σ 2) (σ 3) (σ 5) (σ 7) (σ 65) h) = g17_6 k G (σ 0) (σ 2) (σ 3) (σ 5) (σ 6) (σ 7) (σ 47) (σ 55) h := (kgroups_cons (fun σ h => g17_7_eq k G σ h)).trans (by kernel_rfl)
@[simp] def g17_5 (G : KT6 R) (v0 v2 v3 v5 v6 v7 v47 : GV) (h : Heap) : Option R := bif tr false v47 then (kia 1 v5 (.int .i64 0)).bind fun v49 => (kload1 h v49).bind fun v50 => (klenS v0).bind fun v52 => (kbin .sub v52 v7).bind fun v54 => (kbin .gtr v50 v54).bind fun v55 => g17_6 k G v0 v2 v3 v5 v6 v7 v47 v55 h else g17_6 k G v0 v2 v3 v5 v6 v7 v47 .un h
theorem g17_5_eq (G : KT6 R) (σ : GS) (h : Heap) : kgroups PP cfg NN HH 92 o17 [(some (16, false), [17, 18, 19, 20, 21, 22, 23, 24]), (none, [25, 26]), (some (26, false), [27, 28, 29]), (some (29, true), [30, 31, 32]), (some (26, false), [33]), (none, [34])] σ h (fun σ h => G .nrm (σ 0) (σ 2) (σ 3) (σ 5) (σ 7) (σ 65) h) = g17_5 k G (σ 0) (σ 2) (σ 3) (σ 5) (σ 6) (σ 7) (σ 47) h := (kgroups_cons (fun σ h => g17_6_eq k G σ h)).trans (by kernel_rfl)
@[simp] def g17_4 (G : KT6 R) (v0 v2 v3 v5 v6 v7 v40 v45 : GV) (h : Heap) : Option R := (kpick v40 (.bool true) v45).bind fun v46 => g17_5 k G v0 v2 v3 v5 v6 v7 v46 h
theorem g17_4_eq (G : KT6 R) (σ : GS) (h : Heap) : kgroups PP cfg NN HH 92 o17 [(none, [15, 16]), (some (16, false), [17, 18, 19, 20, 21, 22, 23, 24]), (none, [25, 26]), (some (26, false), [27, 28, 29]), (some (29, true), [30, 31, 32]), (some (26, false), [33]), (none, [34])] σ h (fun σ h => G .nrm (σ 0) (σ 2) (σ 3) (σ 5) (σ 7) (σ 65) h) = g17_4 k G (σ 0) (σ 2) (σ 3) (σ 5) (σ 6) (σ 7) (σ 40) (σ 45) h := (kgroups_cons (fun σ h => g17_5_eq k G σ h)).trans (by kernel_rfl)
@[simp] def g17_3 (G : KT6 R) (v0 v2 v3 v5 v6 v7 v40 : GV) (h : Heap) : Option R := bif tr false v40 then (kia 1 v5 (.int .i64 0)).bind fun v42 => (kload1 h v42).bind fun v43 => (kN NN fn.spec_l1In [v43, (.int .i64 0), (.int .i64 5000)] h).bind fun v44 => (kun .not v44).bind fun v45 => g17_4 k G v0 v2 v3 v5 v6 v7 v40 v45 h else g17_4 k G v0 v2 v3 v5 v6 v7 v40 .un h
theorem g17_3_eq (G : KT6 R) (σ : GS) (h : Heap) : kgroups PP cfg NN HH 92 o17 [(some (9, false), [10, 11, 12, 13, 14]), (none, [15, 16]), (some (16, false), [17, 18, 19, 20, 21, 22, 23, 24]), (none, [25, 26]), (some (26, false), [27, 28, 29]), (some (29, true), [30, 31, 32]), (some (26, false), [33]), (none, [34])] σ h (fun σ h => G .nrm (σ 0) (σ 2) (σ 3) (σ 5) (σ 7) (σ 65) h) = g17_3 k G (σ 0) (σ 2) (σ 3) (σ 5) (σ 6) (σ 7) (σ 40) h := (kgroups_cons (fun σ h => g17_4_eq k G σ h)).trans (by kernel_rfl)
@[simp] def g17_2 (G : KT6 R) (v0 v2 v3 v5 v6 v7 v35 v38 : GV) (h : Heap) : Option R := (kpick v35 (.bool true) v38).bind fun v39 => g17_3 k G v0 v2 v3 v5 v6 v7 v39 h
theorem g17_2_eq (G : KT6 R) (σ : GS) (h : Heap) : kgroups PP cfg NN HH 92 o17 [(none, [8, 9]), (some (9, false), [10, 11, 12, 13, 14]), (none, [15, 16]), (some (16, false), [17, 18, 19, 20, 21, 22, 23, 24]), (none, [25, 26]), (some (26, false), [27, 28, 29]), (some (29, true), [30, 31, 32]), (some (26, false), [33]), (none, [34])] σ h (fun σ h => G .nrm (σ 0) (σ 2) (σ 3) (σ 5) (σ 7) (σ 65) h) = g17_2 k G (σ 0) (σ 2) (σ 3) (σ 5) (σ 6) (σ 7) (σ 35) (σ 38) h := (kgroups_cons (fun σ h => g17_3_eq k G σ h)).trans (by kernel_rfl)
@[simp] def g17_1 (G : KT6 R) (v0 v2 v3 v5 v6 v7 v35 : GV) (h : Heap) : Option R := bif tr false v35 then (klen v5).bind fun v37 => (kbin .lss v37 (.int .i64 1)).bind fun v38 => g17_2 k G v0 v2 v3 v5 v6 v7 v35 v38 h else g17_2 k G v0 v2 v3 v5 v6 v7 v35 .un h
theorem g17_1_eq (G : KT6 R) (σ : GS) (h : Heap) : kgroups PP cfg NN HH 92 o17 [(some (4, false), [5, 6, 7]), (none, [8, 9]), (some (9, false), [10, 11, 12, 13, 14]), (none, [15, 16]), (some (16, false), [17, 18, 19, 20, 21, 22, 23, 24]), (none, [25, 26]), (some (26, false), [27, 28, 29]), (some (29, true), [30, 31, 32]), (some (26, false), [33]), (none, [34])] σ h (fun σ h => G .nrm (σ 0) (σ 2) (σ 3) (σ 5) (σ 7) (σ 65) h) = g17_1 k G (σ 0) (σ 2) (σ 3) (σ 5) (σ 6) (σ 7) (σ 35) h := (kgroups_cons (fun σ h => g17_2_eq k G σ h)).trans (by kernel_rfl)
@[simp] def g17_0 (G : KT6 R) (v0 v2 v3 v4 v5 v6 v7 : GV) (h : Heap) : Option R := (klenS v0).bind fun v33 => (kbin .eql v4 v33).bind fun v34 => g17_1 k G v0 v2 v3 v5 v6 v7 v34 h
theorem g17_0_eq (G : KT6 R) (σ : GS) (h : Heap) : kgroups PP cfg NN HH 92 o17 [(none, [0, 1, 2, 3, 4]), (some (4, false), [5, 6, 7]), (none, [8, 9]), (some (9, false), [10, 11, 12, 13, 14]), (none, [15, 16]), (some (16, false), [17, 18, 19, 20, 21, 22, 23, 24]), (none, [25, 26]), (some (26, false), [27, 28, 29]), (some (29, true), [30, 31, 32]), (some (26, false), [33]), (none, [34])] σ h (fun σ h => G .nrm (σ 0) (σ 2) (σ 3) (σ 5) (σ 7) (σ 65) h) = g17_0 k G (σ 0) (σ 2) (σ 3) (σ 4) (σ 5) (σ 6) (σ 7) h := (kgroups_cons (fun σ h => g17_1_eq k G σ h)).trans (by kernel_rfl)
@[simp] def n17 (G : KT6 R) (v0 v2 v3 v4 v5 v6 v7 : GV) (h : Heap) : Option R := g17_0 k G v0 v2 v3 v4 v5 v6 v7 h
theorem n17_eq (G : KT6 R) (σ : GS) (h : Heap) : KC k 92 c17 σ h (fun x σ h => G x (σ 0) (σ 2) (σ 3) (σ 5) (σ 7) (σ 65) h) = n17 k G (σ 0) (σ 2) (σ 3) (σ 4) (σ 5) (σ 6) (σ 7) h := (kregion_eq (id := 6) (draw := false) (ops := o17) (gs := [(none, [0, 1, 2, 3, 4]), (some (4, false), [5, 6, 7]), (none, [8, 9]), (some (9, false), [10, 11, 12, 13, 14]), (none, [15, 16]), (some (16, false), [17, 18, 19, 20, 21, 22, 23, 24]), (none, [25, 26]), (some (26, false), [27, 28, 29]), (some (29, true), [30, 31, 32]), (some (26, false), [33]), (none, [34])]) (by kernel_rfl) (by kernel_rfl) (by kernel_rfl)).trans (g17_0_eq k G σ h)
@[simp] def n15 (G : KT5 R) (v0 v2 v3 v4 v5 v6 v7 : GV) (h : Heap) : Option R := n17 k (fun x v0 v2 v3 v5 v7 v65 h => kx x (n16 k G v0 v2 v3 v5 v7 v65 h) (G x v0 v2 v3 v5 v7 h)) v0 v2 v3 v4 v5 v6 v7 h
theorem n15_eq (G : KT5 R) (σ : GS) (h : Heap) : KC k 92 c15 σ h (fun x σ h => G x (σ 0) (σ 2) (σ 3) (σ 5) (σ 7) h) = n15 k G (σ 0) (σ 2) (σ 3) (σ 4) (σ 5) (σ 6) (σ 7) h := (kseq (b := c16) rfl (fun σ h => n16_eq k G σ h)).trans (n17_eq k (fun x v0 v2 v3 v5 v7 v65 h => kx x (n16 k G v0 v2 v3 v5 v7 v65 h) (G x v0 v2 v3 v5 v7 h)) σ h)
@[simp] def n5 (G : KT2 R) (v0 v2 v3 v4 v5 v6 v7 : GV) (h : Heap) : Option R := n15 k (fun x v0 v2 v3 v5 v7 h => kx x (n6 k G v0 v2 v3 v5 v7 h) (G x v2 v3 h)) v0 v2 v3 v4 v5 v6 v7 h
theorem n5_eq (G : KT2 R) (σ : GS) (h : Heap) : KC k 92 c5 σ h (fun x σ h => G x (σ 2) (σ 3) h) = n5 k G (σ 0) (σ 2) (σ 3) (σ 4) (σ 5) (σ 6) (σ 7) h := (kseq (b := c6) rfl (fun σ h => n6_eq k G σ h)).trans (n15_eq k (fun x v0 v2 v3 v5 v7 h => kx x (n6 k G v0 v2 v3 v5 v7 h) (G x v2 v3 h)) σ h)
noncomputable def c18 : Code := cL c4
@[simp] def n4 (G : KT2 R) (v0 v2 v3 v4 v5 v6 : GV) (h : Heap) : Option R := (kbin .add v4 (.int .i64 1)).bind fun v30 => n5 k G v0 v2 v3 v4 v5 v6 v30 h
theorem n4_eq (G : KT2 R) (σ : GS) (h : Heap) : KC k 92 c4 σ h (fun x σ h => G x (σ 2) (σ 3) h) = n4 k G (σ 0) (σ 2) (σ 3) (σ 4) (σ 5) (σ 6) h := (kseq (a := c18) (b := c5) rfl (fun σ h => n5_eq k G σ h)).trans (by kernel_rfl)
noncomputable def c19 : Code := cL c3
@[simp] def n3 (G : KT2 R) (v0 v2 v3 v4 : GV) (h : Heap) : Option R := (kslS v0 none (some v4) none).bind fun v25 => (kN NN fn.spec_l10Read [v25] h).bind fun v26 => (kxt 0 v26).bind fun v27 => (kxt 1 v26).bind fun v28 => n4 k G v0 v2 v3 v4 v27 v28 h
theorem n3_eq (G : KT2 R) (σ : GS) (h : Heap) : KC k 92 c3 σ h (fun x σ h => G x (σ 2) (σ 3) h) = n3 k G (σ 0) (σ 2) (σ 3) (σ 4) h := (kseq (a := c19) (b := c4) rfl (fun σ h => n4_eq k G σ h)).trans (by kernel_rfl)
noncomputable def c20 : Code := cL c2
noncomputable def c21 : Code := cL c20
noncomputable def c22 : Code := cL c21
noncomputable def c23 : Code := cR c22
noncomputable def c24 : Code := cL c23
@[simp] def n24 {R : Type} (k : Nat) (G : KT4 R) (v0 v2 v3 v4 : GV) (h : Heap) : Option R := (kbin .add v4 (.int .i64 1)).bind fun v21 => G .nrm v0 v2 v3 v21 h
theorem n24_eq (G : KT4 R) (σ : GS) (h : Heap) : KC k 92 c24 σ h (fun x σ h => G x (σ 0) (σ 2) (σ 3) (σ 4) h) = n24 k G (σ 0) (σ 2) (σ 3) (σ 4) h := by kernel_rfl
@[simp] def n23 (G : KT4 R) (v0 v2 v3 v4 : GV) (h : Heap) : Option R := n24 k (fun x v0 v2 v3 v4 h => kb 1 x fun x => G x v0 v2 v3 v4 h) v0 v2 v3 v4 h
theorem n23_eq (G : KT4 R) (σ : GS) (h : Heap) : KC k 92 c23 σ h (fun x σ h => G x (σ 0) (σ 2) (σ 3) (σ 4) h) = n23 k G (σ 0) (σ 2) (σ 3) (σ 4) h := (kblock_eq (a := c24) rfl).trans (n24_eq k (fun x v0 v2 v3 v4 h => kb 1 x fun x => G x v0 v2 v3 v4 h) σ h)
noncomputable def c25 : Code := cL c22
noncomputable def c26 : Code := cR c25
@[simp] def n26 {R : Type} (k : Nat) (G : KT4 R) (v0 v2 v3 v4 v19 : GV) (h : Heap) : Option R := kcond v19 (G .nrm v0 v2 v3 v4 h) (G (.ext 0) v0 v2 v3 v4 h)
theorem n26_eq (G : KT4 R) (σ : GS) (h : Heap) : KC k 92 c26 σ h (fun x σ h => G x (σ 0) (σ 2) (σ 3) (σ 4) h) = n26 k G (σ 0) (σ 2) (σ 3) (σ 4) (σ 19) h := by kernel_rfl
noncomputable def c27 : Code := cL c25
noncomputable def o27 : Array Oper := cO c27
@[simp] def g27_2 {R : Type} (k : Nat) (G : KT5 R) (v0 v2 v3 v4 v14 v18 : GV) (h : Heap) : Option R := (kpick v14 v18 (.bool false)).bind fun v19 => G .nrm v0 v2 v3 v4 v19 h
theorem g27_2_eq (G : KT5 R) (σ : GS) (h : Heap) : kgroups PP cfg NN HH 92 o27 [(none, [9])] σ h (fun σ h => G .nrm (σ 0) (σ 2) (σ 3) (σ 4) (σ 19) h) = g27_2 k G (σ 0) (σ 2) (σ 3) (σ 4) (σ 14) (σ 18) h := by kernel_rfl
@[simp] def g27_1 (G : KT5 R) (v0 v2 v3 v4 v14 : GV) (h : Heap) : Option R := bif tr true v14 then (kbyte v0 v4).bind fun v17 => (kbin .neq v17 (.int .u8 10)).bind fun v18 => g27_2 k G v0 v2 v3 v4 v14 v18 h else g27_2 k G v0 v2 v3 v4 v14 .un h
theorem g27_1_eq (G : KT5 R) (σ : GS) (h : Heap) : kgroups PP cfg NN HH 92 o27 [(some (4, true), [5, 6, 7, 8]), (none, [9])] σ h (fun σ h => G .nrm (σ 0) (σ 2) (σ 3) (σ 4) (σ 19) h) = g27_1 k G (σ 0) (σ 2) (σ 3) (σ 4) (σ 14) h := (kgroups_cons (fun σ h => g27_2_eq k G σ h)).trans (by kernel_rfl)
@[simp] def g27_0 (G : KT5 R) (v0 v2 v3 v4 : GV) (h : Heap) : Option R := (klenS v0).bind fun v12 => (kbin .lss v4 v12).bind fun v13 => g27_1 k G v0 v2 v3 v4 v13 h
theorem g27_0_eq (G : KT5 R) (σ : GS) (h : Heap) : kgroups PP cfg NN HH 92 o27 [(none, [0, 1, 2, 3, 4]), (some (4, true), [5, 6, 7, 8]), (none, [9])] σ h (fun σ h => G .nrm (σ 0) (σ 2) (σ 3) (σ 4) (σ 19) h) = g27_0 k G (σ 0) (σ 2) (σ 3) (σ 4) h := (kgroups_cons (fun σ h => g27_1_eq k G σ h)).trans (by kernel_rfl)
@[simp] def n27 (G : KT5 R) (v0 v2 v3 v4 : GV) (h : Heap) : Option R := g27_0 k G v0 v2 v3 v4 h
theorem n27_eq (G : KT5 R) (σ : GS) (h : Heap) : KC k 92 c27 σ h (fun x σ h => G x (σ 0) (σ 2) (σ 3) (σ 4) (σ 19) h) = n27 k G (σ 0) (σ 2) (σ 3) (σ 4) h := (kregion_eq (id := 2) (draw := false) (ops := o27) (gs := [(none, [0, 1, 2, 3, 4]), (some (4, true), [5, 6, 7, 8]), (none, [9])]) (by kernel_rfl) (by kernel_rfl) (by kernel_rfl)).trans (g27_0_eq k G σ h)
@[simp] def n25 (G : KT4 R) (v0 v2 v3 v4 : GV) (h : Heap) : Option R := n27 k (fun x v0 v2 v3 v4 v19 h => kx x (n26 k G v0 v2 v3 v4 v19 h) (G x v0 v2 v3 v4 h)) v0 v2 v3 v4 h
theorem n25_eq (G : KT4 R) (σ : GS) (h : Heap) : KC k 92 c25 σ h (fun x σ h => G x (σ 0) (σ 2) (σ 3) (σ 4) h) = n25 k G (σ 0) (σ 2) (σ 3) (σ 4) h := (kseq (b := c26) rfl (fun σ h => n26_eq k G σ h)).trans (n27_eq k (fun x v0 v2 v3 v4 v19 h => kx x (n26 k G v0 v2 v3 v4 v19 h) (G x v0 v2 v3 v4 h)) σ h)
@[simp] def n22 (G : KT4 R) (v0 v2 v3 v4 : GV) (h : Heap) : Option R := n25 k (fun x v0 v2 v3 v4 h => kx x (n23 k G v0 v2 v3 v4 h) (G x v0 v2 v3 v4 h)) v0 v2 v3 v4 h
theorem n22_eq (G : KT4 R) (σ : GS) (h : Heap) : KC k 92 c22 σ h (fun x σ h => G x (σ 0) (σ 2) (σ 3) (σ 4) h) = n22 k G (σ 0) (σ 2) (σ 3) (σ 4) h := (kseq (b := c23) rfl (fun σ h => n23_eq k G σ h)).trans (n25_eq k (fun x v0 v2 v3 v4 h => kx x (n23 k G v0 v2 v3 v4 h) (G x v0 v2 v3 v4 h)) σ h)
def l21 {R : Type} (k : Nat) (G : KT4 R) : Nat → GV → GV → GV → GV → Heap → Option R
  | 0, _, _, _, _, _ => none
  | r + 1, v0, v2, v3, v4, h => n22 k (fun x v0 v2 v3 v4 h => kx x (l21 k G r v0 v2 v3 v4 h) (G x v0 v2 v3 v4 h)) v0 v2 v3 v4 h
theorem l21_eq {R : Type} (k : Nat) (G : KT4 R) : ∀ (r : Nat) (σ : GS) (h : Heap), kloop (fun σ h K => KC k 92 c22 σ h K) r σ h (fun x σ h => G x (σ 0) (σ 2) (σ 3) (σ 4) h) = l21 k G r (σ 0) (σ 2) (σ 3) (σ 4) h
  | 0, _, _ => rfl
  | r + 1, σ, h => (kloop_eq (fun σ h => l21_eq k G r σ h)).trans (n22_eq k (fun x v0 v2 v3 v4 h => kx x (l21 k G r v0 v2 v3 v4 h) (G x v0 v2 v3 v4 h)) σ h)
@[simp] def n21 (G : KT4 R) (v0 v2 v3 v4 : GV) (h : Heap) : Option R := l21 k G k v0 v2 v3 v4 h
theorem n21_eq (G : KT4 R) (σ : GS) (h : Heap) : KC k 92 c21 σ h (fun x σ h => G x (σ 0) (σ 2) (σ 3) (σ 4) h) = n21 k G (σ 0) (σ 2) (σ 3) (σ 4) h := (kloopc_eq (a := c22) rfl).trans (l21_eq k G k σ h)
@[simp] def n20 (G : KT4 R) (v0 v2 v3 v4 : GV) (h : Heap) : Option R := n21 k (fun x v0 v2 v3 v4 h => kb 0 x fun x => G x v0 v2 v3 v4 h) v0 v2 v3 v4 h
theorem n20_eq (G : KT4 R) (σ : GS) (h : Heap) : KC k 92 c20 σ h (fun x σ h => G x (σ 0) (σ 2) (σ 3) (σ 4) h) = n20 k G (σ 0) (σ 2) (σ 3) (σ 4) h := (kblock_eq (a := c21) rfl).trans (n21_eq k (fun x v0 v2 v3 v4 h => kb 0 x fun x => G x v0 v2 v3 v4 h) σ h)
@[simp] def n2 (G : KT2 R) (v0 v2 v3 v4 : GV) (h : Heap) : Option R := n20 k (fun x v0 v2 v3 v4 h => kx x (n3 k G v0 v2 v3 v4 h) (G x v2 v3 h)) v0 v2 v3 v4 h
theorem n2_eq (G : KT2 R) (σ : GS) (h : Heap) : KC k 92 c2 σ h (fun x σ h => G x (σ 2) (σ 3) h) = n2 k G (σ 0) (σ 2) (σ 3) (σ 4) h := (kseq (b := c3) rfl (fun σ h => n3_eq k G σ h)).trans (n20_eq k (fun x v0 v2 v3 v4 h => kx x (n3 k G v0 v2 v3 v4 h) (G x v2 v3 h)) σ h)
noncomputable def c28 : Code := cL c1
@[simp] def n1 (G : KT2 R) (v0 v2 v3 : GV) (h : Heap) : Option R := n2 k G v0 v2 v3 (.int .i64 0) h
theorem n1_eq (G : KT2 R) (σ : GS) (h : Heap) : KC k 92 c1 σ h (fun x σ h => G x (σ 2) (σ 3) h) = n1 k G (σ 0) (σ 2) (σ 3) h := (kseq (a := c28) (b := c2) rfl (fun σ h => n2_eq k G σ h)).trans (by kernel_rfl)
noncomputable def c29 : Code := cL c0
@[simp] def n0 (G : KT2 R) (v0 : GV) (h : Heap) : Option R := n1 k G v0 (.str { data := #[] }) (.int .i64 0) h
theorem n0_eq (G : KT2 R) (σ : GS) (h : Heap) : KC k 92 c0 σ h (fun x σ h => G x (σ 2) (σ 3) h) = n0 k G (σ 0) h := (kseq (a := c29) (b := c1) rfl (fun σ h => n1_eq k G σ h)).trans (by kernel_rfl)
def run {R : Type} (k : Nat) (a0 : GV) (h : Heap) (fin : GV → Heap → Option R) : Option R := n0 k (fun x v2 v3 h => kend x (fin (.tup [v2, v3]) h)) a0 h
theorem run_eq {R : Type} (k : Nat) (a0 : GV) (h : Heap) (fin : GV → Heap → Option R) : kfun PP cfg NN HH k fn.spec_l16Record [a0] h fin = run k a0 h fin := (kfun_eq (nt := 92) (c := c0) (show PP.funcs[fn.spec_l16Record]? = some Tryd.f79 by kernel_rfl) (by kernel_rfl) (by kernel_rfl) (fun x σ h => by cases x <;> kernel_rfl)).trans (n0_eq k (fun x v2 v3 h => kend x (fin (.tup [v2, v3]) h)) _ h)
theorem gives {k : Nat} {a0 : GV} {v : GV} (e : run k a0 [] finN = some v) : NN fn.spec_l16Record [a0] = some v := nω_of (by kernel_rfl) ((run_eq k a0 [] finN).trans e)
end S.spec_l16Record
end
end Go.Proofs.YtklhdbkaejbajaaDoor.G
