/- What these functions do, told for open values, out of the machine with continuations. Printed by a program of this session. -/
import Derived.Test.YtklhdbkaejbajaaDoorSC
import Derived.KernelRfl
namespace Go.Proofs.YtklhdbkaejbajaaDoor.G
open Go.RowKit
set_option linter.unusedVariables false
set_option maxRecDepth 100000
noncomputable section
variable {R : Type} (k : Nat)
/-! strings_Split -/
namespace S.strings_Split
noncomputable def c0 : Code := bodyOf Tryd.f85
@[simp] def n0 {R : Type} (k : Nat) (G : KT1 R) (v0 v1 : GV) (h : Heap) : Option R := (kF false HH fn.strings_genSplit [v0, v1, (.int .i64 0), (.int .i64 (-1))] h).bind fun r => kr r fun v7 h => G .ret v7 h
theorem n0_eq (G : KT1 R) (σ : GS) (h : Heap) : KC k 8 c0 σ h (fun x σ h => G x (σ 4) h) = n0 k G (σ 0) (σ 1) h := by kernel_rfl
def run {R : Type} (k : Nat) (a0 : GV) (a1 : GV) (h : Heap) (fin : GV → Heap → Option R) : Option R := n0 k (fun x v4 h => kend x (fin v4 h)) a0 a1 h
theorem run_eq {R : Type} (k : Nat) (a0 : GV) (a1 : GV) (h : Heap) (fin : GV → Heap → Option R) : kfun PP cfg NN HH k fn.strings_Split [a0, a1] h fin = run k a0 a1 h fin := (kfun_eq (nt := 8) (c := c0) (show PP.funcs[fn.strings_Split]? = some Tryd.f85 by kernel_rfl) (by kernel_rfl) (by kernel_rfl) (fun x σ h => by cases x <;> kernel_rfl)).trans (n0_eq k (fun x v4 h => kend x (fin v4 h)) _ h)
theorem gives {k : Nat} {a0 : GV} {a1 : GV} {b : Nat} {q : GV × List (List GV)} (e : run k a0 a1 [] (finO b) = some q) : OO fn.strings_Split [a0, a1] b = some q := oω_of ((run_eq k a0 a1 [] (finO b)).trans e)
end S.strings_Split
/-! strings_genSplit -/
namespace S.strings_genSplit
noncomputable def c0 : Code := bodyOf Tryd.f147
noncomputable def c1 : Code := cR c0
noncomputable def c2 : Code := cR c1
noncomputable def c3 : Code := cR c2
noncomputable def c4 : Code := cR c3
noncomputable def c5 : Code := cR c4
noncomputable def c6 : Code := cR c5
noncomputable def c7 : Code := cR c6
noncomputable def c8 : Code := cR c7
noncomputable def c9 : Code := cR c8
@[simp] def n9 {R : Type} (k : Nat) (G : KT1 R) (v0 v8 v9 v10 : GV) (h : Heap) : Option R := (kia 1 v9 v10).bind fun v61 => (kstore 1 h v61 v0).bind fun h => (kbin .add v10 (.int .i64 1)).bind fun v64 => (ksl 1 v9 none (some v64) none).bind fun v65 => G .ret v65 h
theorem n9_eq (G : KT1 R) (σ : GS) (h : Heap) : KC k 66 c9 σ h (fun x σ h => G x (σ 8) h) = n9 k G (σ 0) (σ 8) (σ 9) (σ 10) h := by kernel_rfl
noncomputable def c10 : Code := cL c8
noncomputable def c11 : Code := cL c10
noncomputable def c12 : Code := cL c11
noncomputable def c13 : Code := cR c12
noncomputable def c14 : Code := cL c13
@[simp] def n14 {R : Type} (k : Nat) (G : KT7 R) (v0 v1 v2 v3 v8 v9 v10 : GV) (h : Heap) : Option R := (kN NN fn.strings_Index [v0, v1] h).bind fun v39 => (kbin .lss v39 (.int .i64 0)).bind fun v41 => kcond v41 (G (.ext 0) v0 v1 v2 v3 v8 v9 v10 h) ((kbin .add v39 v2).bind fun v47 => (kslS v0 none (some v47) none).bind fun v48 => (kia 1 v9 v10).bind fun v49 => (kstore 1 h v49 v48).bind fun h => (klenS v1).bind fun v53 => (kbin .add v39 v53).bind fun v54 => (kslS v0 (some v54) none none).bind fun v55 => (kbin .add v10 (.int .i64 1)).bind fun v57 => G .nrm v55 v1 v2 v3 v8 v9 v57 h)
theorem n14_eq (G : KT7 R) (σ : GS) (h : Heap) : KC k 66 c14 σ h (fun x σ h => G x (σ 0) (σ 1) (σ 2) (σ 3) (σ 8) (σ 9) (σ 10) h) = n14 k G (σ 0) (σ 1) (σ 2) (σ 3) (σ 8) (σ 9) (σ 10) h := by kernel_rfl
@[simp] def n13 (G : KT7 R) (v0 v1 v2 v3 v8 v9 v10 : GV) (h : Heap) : Option R := n14 k (fun x v0 v1 v2 v3 v8 v9 v10 h => kb 1 x fun x => G x v0 v1 v2 v3 v8 v9 v10 h) v0 v1 v2 v3 v8 v9 v10 h
theorem n13_eq (G : KT7 R) (σ : GS) (h : Heap) : KC k 66 c13 σ h (fun x σ h => G x (σ 0) (σ 1) (σ 2) (σ 3) (σ 8) (σ 9) (σ 10) h) = n13 k G (σ 0) (σ 1) (σ 2) (σ 3) (σ 8) (σ 9) (σ 10) h := (kblock_eq (a := c14) rfl).trans (n14_eq k (fun x v0 v1 v2 v3 v8 v9 v10 h => kb 1 x fun x => G x v0 v1 v2 v3 v8 v9 v10 h) σ h)
noncomputable def c15 : Code := cL c12
@[simp] def n12 (G : KT7 R) (v0 v1 v2 v3 v8 v9 v10 : GV) (h : Heap) : Option R := (kbin .lss v10 v3).bind fun v36 => kcond v36 (n13 k G v0 v1 v2 v3 v8 v9 v10 h) (G (.ext 0) v0 v1 v2 v3 v8 v9 v10 h)
theorem n12_eq (G : KT7 R) (σ : GS) (h : Heap) : KC k 66 c12 σ h (fun x σ h => G x (σ 0) (σ 1) (σ 2) (σ 3) (σ 8) (σ 9) (σ 10) h) = n12 k G (σ 0) (σ 1) (σ 2) (σ 3) (σ 8) (σ 9) (σ 10) h := (kseq (a := c15) (b := c13) rfl (fun σ h => n13_eq k G σ h)).trans (by kernel_rfl)
def l11 {R : Type} (k : Nat) (G : KT4 R) : Nat → GV → GV → GV → GV → GV → GV → GV → Heap → Option R
  | 0, _, _, _, _, _, _, _, _ => none
  | r + 1, v0, v1, v2, v3, v8, v9, v10, h => n12 k (fun x v0 v1 v2 v3 v8 v9 v10 h => kx x (l11 k G r v0 v1 v2 v3 v8 v9 v10 h) (G x v0 v8 v9 v10 h)) v0 v1 v2 v3 v8 v9 v10 h
theorem l11_eq {R : Type} (k : Nat) (G : KT4 R) : ∀ (r : Nat) (σ : GS) (h : Heap), kloop (fun σ h K => KC k 66 c12 σ h K) r σ h (fun x σ h => G x (σ 0) (σ 8) (σ 9) (σ 10) h) = l11 k G r (σ 0) (σ 1) (σ 2) (σ 3) (σ 8) (σ 9) (σ 10) h
  | 0, _, _ => rfl
  | r + 1, σ, h => (kloop_eq (fun σ h => l11_eq k G r σ h)).trans (n12_eq k (fun x v0 v1 v2 v3 v8 v9 v10 h => kx x (l11 k G r v0 v1 v2 v3 v8 v9 v10 h) (G x v0 v8 v9 v10 h)) σ h)
@[simp] def n11 (G : KT4 R) (v0 v1 v2 v3 v8 v9 v10 : GV) (h : Heap) : Option R := l11 k G k v0 v1 v2 v3 v8 v9 v10 h
theorem n11_eq (G : KT4 R) (σ : GS) (h : Heap) : KC k 66 c11 σ h (fun x σ h => G x (σ 0) (σ 8) (σ 9) (σ 10) h) = n11 k G (σ 0) (σ 1) (σ 2) (σ 3) (σ 8) (σ 9) (σ 10) h := (kloopc_eq (a := c12) rfl).trans (l11_eq k G k σ h)
@[simp] def n10 (G : KT4 R) (v0 v1 v2 v3 v8 v9 v10 : GV) (h : Heap) : Option R := n11 k (fun x v0 v8 v9 v10 h => kb 0 x fun x => G x v0 v8 v9 v10 h) v0 v1 v2 v3 v8 v9 v10 h
theorem n10_eq (G : KT4 R) (σ : GS) (h : Heap) : KC k 66 c10 σ h (fun x σ h => G x (σ 0) (σ 8) (σ 9) (σ 10) h) = n10 k G (σ 0) (σ 1) (σ 2) (σ 3) (σ 8) (σ 9) (σ 10) h := (kblock_eq (a := c11) rfl).trans (n11_eq k (fun x v0 v8 v9 v10 h => kb 0 x fun x => G x v0 v8 v9 v10 h) σ h)
@[simp] def n8 (G : KT1 R) (v0 v1 v2 v3 v8 v9 v10 : GV) (h : Heap) : Option R := n10 k (fun x v0 v8 v9 v10 h => kx x (n9 k G v0 v8 v9 v10 h) (G x v8 h)) v0 v1 v2 v3 v8 v9 v10 h
theorem n8_eq (G : KT1 R) (σ : GS) (h : Heap) : KC k 66 c8 σ h (fun x σ h => G x (σ 8) h) = n8 k G (σ 0) (σ 1) (σ 2) (σ 3) (σ 8) (σ 9) (σ 10) h := (kseq (b := c9) rfl (fun σ h => n9_eq k G σ h)).trans (n10_eq k (fun x v0 v8 v9 v10 h => kx x (n9 k G v0 v8 v9 v10 h) (G x v8 h)) σ h)
noncomputable def c16 : Code := cL c7
@[simp] def n7 (G : KT1 R) (v0 v1 v2 v3 v8 v9 : GV) (h : Heap) : Option R := n8 k G v0 v1 v2 v3 v8 v9 (.int .i64 0) h
theorem n7_eq (G : KT1 R) (σ : GS) (h : Heap) : KC k 66 c7 σ h (fun x σ h => G x (σ 8) h) = n7 k G (σ 0) (σ 1) (σ 2) (σ 3) (σ 8) (σ 9) h := (kseq (a := c16) (b := c8) rfl (fun σ h => n8_eq k G σ h)).trans (by kernel_rfl)
noncomputable def c17 : Code := cL c6
@[simp] def n6 (G : KT1 R) (v0 v1 v2 v3 v8 v9 : GV) (h : Heap) : Option R := (kbin .sub v3 (.int .i64 1)).bind fun v33 => n7 k G v0 v1 v2 v33 v8 v9 h
theorem n6_eq (G : KT1 R) (σ : GS) (h : Heap) : KC k 66 c6 σ h (fun x σ h => G x (σ 8) h) = n6 k G (σ 0) (σ 1) (σ 2) (σ 3) (σ 8) (σ 9) h := (kseq (a := c17) (b := c7) rfl (fun σ h => n7_eq k G σ h)).trans (by kernel_rfl)
noncomputable def c18 : Code := cL c5
@[simp] def n5 (G : KT1 R) (v0 v1 v2 v3 v8 : GV) (h : Heap) : Option R := (kmake [(.str { data := #[] })] 1 16 v3 v3 h).bind fun r => kr r fun v31 h => n6 k G v0 v1 v2 v3 v8 v31 h
theorem n5_eq (G : KT1 R) (σ : GS) (h : Heap) : KC k 66 c5 σ h (fun x σ h => G x (σ 8) h) = n5 k G (σ 0) (σ 1) (σ 2) (σ 3) (σ 8) h := (kseq (a := c18) (b := c6) rfl (fun σ h => n6_eq k G σ h)).trans (by kernel_rfl)
noncomputable def c19 : Code := cL c4
@[simp] def n4 (G : KT1 R) (v0 v1 v2 v3 v8 : GV) (h : Heap) : Option R := (klenS v0).bind fun v27 => (kbin .add v27 (.int .i64 1)).bind fun v28 => (gmin v3 v28).bind fun v29 => n5 k G v0 v1 v2 v29 v8 h
theorem n4_eq (G : KT1 R) (σ : GS) (h : Heap) : KC k 66 c4 σ h (fun x σ h => G x (σ 8) h) = n4 k G (σ 0) (σ 1) (σ 2) (σ 3) (σ 8) h := (kseq (a := c19) (b := c5) rfl (fun σ h => n5_eq k G σ h)).trans (by kernel_rfl)
noncomputable def c20 : Code := cL c3
@[simp] def n3 (G : KT1 R) (v0 v1 v2 v3 v8 : GV) (h : Heap) : Option R := (kbin .lss v3 (.int .i64 0)).bind fun v20 => kcond v20 ((kN NN fn.strings_Count [v0, v1] h).bind fun v23 => (kbin .add v23 (.int .i64 1)).bind fun v24 => n4 k G v0 v1 v2 v24 v8 h) (n4 k G v0 v1 v2 v3 v8 h)
theorem n3_eq (G : KT1 R) (σ : GS) (h : Heap) : KC k 66 c3 σ h (fun x σ h => G x (σ 8) h) = n3 k G (σ 0) (σ 1) (σ 2) (σ 3) (σ 8) h := (kseq (a := c20) (b := c4) rfl (fun σ h => n4_eq k G σ h)).trans (by kernel_rfl)
noncomputable def c21 : Code := cL c2
@[simp] def n2 (G : KT1 R) (v0 v1 v2 v3 v8 : GV) (h : Heap) : Option R := (kbin .eql v1 (.str { data := #[] })).bind fun v15 => kcond v15 ((kN NN fn.strings_explode [v0, v3] h).bind fun v18 => G .ret v18 h) (n3 k G v0 v1 v2 v3 v8 h)
theorem n2_eq (G : KT1 R) (σ : GS) (h : Heap) : KC k 66 c2 σ h (fun x σ h => G x (σ 8) h) = n2 k G (σ 0) (σ 1) (σ 2) (σ 3) (σ 8) h := (kseq (a := c21) (b := c3) rfl (fun σ h => n3_eq k G σ h)).trans (by kernel_rfl)
noncomputable def c22 : Code := cL c1
@[simp] def n1 (G : KT1 R) (v0 v1 v2 v3 v8 : GV) (h : Heap) : Option R := (kbin .eql v3 (.int .i64 0)).bind fun v13 => kcond v13 (G .ret .nils h) (n2 k G v0 v1 v2 v3 v8 h)
theorem n1_eq (G : KT1 R) (σ : GS) (h : Heap) : KC k 66 c1 σ h (fun x σ h => G x (σ 8) h) = n1 k G (σ 0) (σ 1) (σ 2) (σ 3) (σ 8) h := (kseq (a := c22) (b := c2) rfl (fun σ h => n2_eq k G σ h)).trans (by kernel_rfl)
noncomputable def c23 : Code := cL c0
@[simp] def n0 (G : KT1 R) (v0 v1 v2 v3 : GV) (h : Heap) : Option R := n1 k G v0 v1 v2 v3 .nils h
theorem n0_eq (G : KT1 R) (σ : GS) (h : Heap) : KC k 66 c0 σ h (fun x σ h => G x (σ 8) h) = n0 k G (σ 0) (σ 1) (σ 2) (σ 3) h := (kseq (a := c23) (b := c1) rfl (fun σ h => n1_eq k G σ h)).trans (by kernel_rfl)
def run {R : Type} (k : Nat) (a0 : GV) (a1 : GV) (a2 : GV) (a3 : GV) (h : Heap) (fin : GV → Heap → Option R) : Option R := n0 k (fun x v8 h => kend x (fin v8 h)) a0 a1 a2 a3 h
theorem run_eq {R : Type} (k : Nat) (a0 : GV) (a1 : GV) (a2 : GV) (a3 : GV) (h : Heap) (fin : GV → Heap → Option R) : kfun PP cfg NN HH k fn.strings_genSplit [a0, a1, a2, a3] h fin = run k a0 a1 a2 a3 h fin := (kfun_eq (nt := 66) (c := c0) (show PP.funcs[fn.strings_genSplit]? = some Tryd.f147 by kernel_rfl) (by kernel_rfl) (by kernel_rfl) (fun x σ h => by cases x <;> kernel_rfl)).trans (n0_eq k (fun x v8 h => kend x (fin v8 h)) _ h)
theorem gives {k : Nat} {a0 : GV} {a1 : GV} {a2 : GV} {a3 : GV} {b : Nat} {q : GV × List (List GV)} (e : run k a0 a1 a2 a3 [] (finO b) = some q) : OO fn.strings_genSplit [a0, a1, a2, a3] b = some q := oω_of ((run_eq k a0 a1 a2 a3 [] (finO b)).trans e)
end S.strings_genSplit
/-! impl_ReadEntry -/
namespace S.impl_ReadEntry
noncomputable def c0 : Code := bodyOf Tryd.f30
noncomputable def c1 : Code := cR c0
noncomputable def c2 : Code := cR c1
noncomputable def c3 : Code := cR c2
noncomputable def c4 : Code := cR c3
noncomputable def c5 : Code := cR c4
noncomputable def c6 : Code := cR c5
@[simp] def n6 {R : Type} (k : Nat) (G : KT2 R) (v2 v5 : GV) (h : Heap) : Option R := (kloadA 4 h v5).bind fun v61 => (kstore 4 h v2 v61).bind fun h => G .ret v2 (.bool true) h
theorem n6_eq (G : KT2 R) (σ : GS) (h : Heap) : KC k 62 c6 σ h (fun x σ h => G x (σ 2) (σ 3) h) = n6 k G (σ 2) (σ 5) h := by kernel_rfl
noncomputable def c7 : Code := cL c5
noncomputable def c8 : Code := cR c7
@[simp] def n8 {R : Type} (k : Nat) (G : KT3 R) (v2 v3 v5 v59 : GV) (h : Heap) : Option R := kcond v59 ((gfill (fun i => [(0, 1), (1, 1), (2, 1), (3, 1)][i]?) [(.int .i64 0), (.int .i64 0), (.int .i64 0), (.str { data := #[] })] []).bind fun c => kagg c h fun v60 h => (kstore 4 h v2 v60).bind fun h => G .ret v2 (.bool false) v5 h) (G .nrm v2 v3 v5 h)
theorem n8_eq (G : KT3 R) (σ : GS) (h : Heap) : KC k 62 c8 σ h (fun x σ h => G x (σ 2) (σ 3) (σ 5) h) = n8 k G (σ 2) (σ 3) (σ 5) (σ 59) h := by kernel_rfl
noncomputable def c9 : Code := cL c7
noncomputable def o9 : Array Oper := cO c9
@[simp] def g9_2 {R : Type} (k : Nat) (G : KT4 R) (v2 v3 v5 v54 v58 : GV) (h : Heap) : Option R := (kpick v54 (.bool true) v58).bind fun v59 => G .nrm v2 v3 v5 v59 h
theorem g9_2_eq (G : KT4 R) (σ : GS) (h : Heap) : kgroups PP cfg NN HH 62 o9 [(none, [7])] σ h (fun σ h => G .nrm (σ 2) (σ 3) (σ 5) (σ 59) h) = g9_2 k G (σ 2) (σ 3) (σ 5) (σ 54) (σ 58) h := by kernel_rfl
@[simp] def g9_1 (G : KT4 R) (v0 v2 v3 v5 v54 : GV) (h : Heap) : Option R := bif tr false v54 then (kloadA 4 h v5).bind fun v55 => (kN NN fn.impl_ShowEntry [v55] h).bind fun v56 => (kbin .neq v56 v0).bind fun v58 => g9_2 k G v2 v3 v5 v54 v58 h else g9_2 k G v2 v3 v5 v54 .un h
theorem g9_1_eq (G : KT4 R) (σ : GS) (h : Heap) : kgroups PP cfg NN HH 62 o9 [(some (2, false), [3, 4, 5, 6]), (none, [7])] σ h (fun σ h => G .nrm (σ 2) (σ 3) (σ 5) (σ 59) h) = g9_1 k G (σ 0) (σ 2) (σ 3) (σ 5) (σ 54) h := (kgroups_cons (fun σ h => g9_2_eq k G σ h)).trans (by kernel_rfl)
@[simp] def g9_0 (G : KT4 R) (v0 v2 v3 v5 : GV) (h : Heap) : Option R := (kbin .eql v0 (.str { data := #[] })).bind fun v53 => g9_1 k G v0 v2 v3 v5 v53 h
theorem g9_0_eq (G : KT4 R) (σ : GS) (h : Heap) : kgroups PP cfg NN HH 62 o9 [(none, [0, 1, 2]), (some (2, false), [3, 4, 5, 6]), (none, [7])] σ h (fun σ h => G .nrm (σ 2) (σ 3) (σ 5) (σ 59) h) = g9_0 k G (σ 0) (σ 2) (σ 3) (σ 5) h := (kgroups_cons (fun σ h => g9_1_eq k G σ h)).trans (by kernel_rfl)
@[simp] def n9 (G : KT4 R) (v0 v2 v3 v5 : GV) (h : Heap) : Option R := g9_0 k G v0 v2 v3 v5 h
theorem n9_eq (G : KT4 R) (σ : GS) (h : Heap) : KC k 62 c9 σ h (fun x σ h => G x (σ 2) (σ 3) (σ 5) (σ 59) h) = n9 k G (σ 0) (σ 2) (σ 3) (σ 5) h := (kregion_eq (id := 13) (draw := false) (ops := o9) (gs := [(none, [0, 1, 2]), (some (2, false), [3, 4, 5, 6]), (none, [7])]) (by kernel_rfl) (by kernel_rfl) (by kernel_rfl)).trans (g9_0_eq k G σ h)
@[simp] def n7 (G : KT3 R) (v0 v2 v3 v5 : GV) (h : Heap) : Option R := n9 k (fun x v2 v3 v5 v59 h => kx x (n8 k G v2 v3 v5 v59 h) (G x v2 v3 v5 h)) v0 v2 v3 v5 h
theorem n7_eq (G : KT3 R) (σ : GS) (h : Heap) : KC k 62 c7 σ h (fun x σ h => G x (σ 2) (σ 3) (σ 5) h) = n7 k G (σ 0) (σ 2) (σ 3) (σ 5) h := (kseq (b := c8) rfl (fun σ h => n8_eq k G σ h)).trans (n9_eq k (fun x v2 v3 v5 v59 h => kx x (n8 k G v2 v3 v5 v59 h) (G x v2 v3 v5 h)) σ h)
@[simp] def n5 (G : KT2 R) (v0 v2 v3 v5 : GV) (h : Heap) : Option R := n7 k (fun x v2 v3 v5 h => kx x (n6 k G v2 v5 h) (G x v2 v3 h)) v0 v2 v3 v5 h
theorem n5_eq (G : KT2 R) (σ : GS) (h : Heap) : KC k 62 c5 σ h (fun x σ h => G x (σ 2) (σ 3) h) = n5 k G (σ 0) (σ 2) (σ 3) (σ 5) h := (kseq (b := c6) rfl (fun σ h => n6_eq k G σ h)).trans (n7_eq k (fun x v2 v3 v5 h => kx x (n6 k G v2 v5 h) (G x v2 v3 h)) σ h)
noncomputable def c10 : Code := cL c4
@[simp] def n4 (G : KT2 R) (v0 v2 v3 v4 v5 : GV) (h : Heap) : Option R := (kfa 0 v5).bind fun v33 => (kload1 h v33).bind fun v34 => (kbin .neq v34 (.int .i64 2)).bind fun v35 => kcond v35 ((kia 1 v4 (.int .i64 1)).bind fun v38 => (kload1 h v38).bind fun v39 => (kN NN fn.impl_numberOf [v39] h).bind fun v40 => (kxt 0 v40).bind fun v41 => (kxt 1 v40).bind fun v42 => (kfa 1 v5).bind fun v43 => (kstore 1 h v43 v41).bind fun h => (kia 1 v4 (.int .i64 2)).bind fun v46 => (kload1 h v46).bind fun v47 => (kN NN fn.impl_numberOf [v47] h).bind fun v48 => (kxt 0 v48).bind fun v49 => (kxt 1 v48).bind fun v50 => (kfa 2 v5).bind fun v51 => (kstore 1 h v51 v49).bind fun h => n5 k G v0 v2 v3 v5 h) (n5 k G v0 v2 v3 v5 h)
theorem n4_eq (G : KT2 R) (σ : GS) (h : Heap) : KC k 62 c4 σ h (fun x σ h => G x (σ 2) (σ 3) h) = n4 k G (σ 0) (σ 2) (σ 3) (σ 4) (σ 5) h := (kseq (a := c10) (b := c5) rfl (fun σ h => n5_eq k G σ h)).trans (by kernel_rfl)
noncomputable def c11 : Code := cL c3
noncomputable def c12 : Code := cR c11
noncomputable def c13 : Code := cL c12
@[simp] def n13 {R : Type} (k : Nat) (G : KT5 R) (v0 v2 v3 v4 v5 v13 : GV) (h : Heap) : Option R := (kbin .eql v13 (.str { data := #[107, 101, 121, 115] })).bind fun v15 => kcond v15 ((kia 1 v4 (.int .i64 3)).bind fun v17 => (kload1 h v17).bind fun v18 => (kN NN fn.impl_unhex [v18] h).bind fun v19 => (kfa 0 v5).bind fun v20 => (kstore 1 h v20 (.int .i64 1)).bind fun h => (kfa 3 v5).bind fun v21 => (kstore 1 h v21 v19).bind fun h => G .nrm v0 v2 v3 v4 v5 h) ((kbin .eql v13 (.str { data := #[111, 117, 116] })).bind fun v23 => kcond v23 ((kia 1 v4 (.int .i64 1)).bind fun v25 => (kload1 h v25).bind fun v26 => (kN NN fn.impl_unhex [v26] h).bind fun v27 => (kfa 0 v5).bind fun v28 => (kstore 1 h v28 (.int .i64 2)).bind fun h => (kfa 3 v5).bind fun v29 => (kstore 1 h v29 v27).bind fun h => G .nrm v0 v2 v3 v4 v5 h) ((kbin .eql v13 (.str { data := #[115, 105, 122, 101] })).bind fun v31 => kcond v31 ((kfa 0 v5).bind fun v32 => (kstore 1 h v32 (.int .i64 3)).bind fun h => G .nrm v0 v2 v3 v4 v5 h) (G .nrm v0 v2 v3 v4 v5 h)))
theorem n13_eq (G : KT5 R) (σ : GS) (h : Heap) : KC k 62 c13 σ h (fun x σ h => G x (σ 0) (σ 2) (σ 3) (σ 4) (σ 5) h) = n13 k G (σ 0) (σ 2) (σ 3) (σ 4) (σ 5) (σ 13) h := by kernel_rfl
@[simp] def n12 (G : KT5 R) (v0 v2 v3 v4 v5 v13 : GV) (h : Heap) : Option R := n13 k (fun x v0 v2 v3 v4 v5 h => kb 0 x fun x => G x v0 v2 v3 v4 v5 h) v0 v2 v3 v4 v5 v13 h
theorem n12_eq (G : KT5 R) (σ : GS) (h : Heap) : KC k 62 c12 σ h (fun x σ h => G x (σ 0) (σ 2) (σ 3) (σ 4) (σ 5) h) = n12 k G (σ 0) (σ 2) (σ 3) (σ 4) (σ 5) (σ 13) h := (kblock_eq (a := c13) rfl).trans (n13_eq k (fun x v0 v2 v3 v4 v5 h => kb 0 x fun x => G x v0 v2 v3 v4 v5 h) σ h)
noncomputable def c14 : Code := cL c11
@[simp] def n11 (G : KT5 R) (v0 v2 v3 v4 v5 : GV) (h : Heap) : Option R := (kia 1 v4 (.int .i64 0)).bind fun v12 => (kload1 h v12).bind fun v13 => n12 k G v0 v2 v3 v4 v5 v13 h
theorem n11_eq (G : KT5 R) (σ : GS) (h : Heap) : KC k 62 c11 σ h (fun x σ h => G x (σ 0) (σ 2) (σ 3) (σ 4) (σ 5) h) = n11 k G (σ 0) (σ 2) (σ 3) (σ 4) (σ 5) h := (kseq (a := c14) (b := c12) rfl (fun σ h => n12_eq k G σ h)).trans (by kernel_rfl)
@[simp] def n3 (G : KT2 R) (v0 v2 v3 v4 v5 : GV) (h : Heap) : Option R := n11 k (fun x v0 v2 v3 v4 v5 h => kx x (n4 k G v0 v2 v3 v4 v5 h) (G x v2 v3 h)) v0 v2 v3 v4 v5 h
theorem n3_eq (G : KT2 R) (σ : GS) (h : Heap) : KC k 62 c3 σ h (fun x σ h => G x (σ 2) (σ 3) h) = n3 k G (σ 0) (σ 2) (σ 3) (σ 4) (σ 5) h := (kseq (b := c4) rfl (fun σ h => n4_eq k G σ h)).trans (n11_eq k (fun x v0 v2 v3 v4 v5 h => kx x (n4 k G v0 v2 v3 v4 v5 h) (G x v2 v3 h)) σ h)
noncomputable def c15 : Code := cL c2
@[simp] def n2 (G : KT2 R) (v0 v2 v3 v4 : GV) (h : Heap) : Option R := (gfill (fun i => [(0, 1), (1, 1), (2, 1), (3, 1)][i]?) [(.int .i64 0), (.int .i64 0), (.int .i64 0), (.str { data := #[] })] []).bind fun c => kagg c h fun v10 h => kalloc [(.int .i64 0), (.int .i64 0), (.int .i64 0), (.str { data := #[] })] h fun v5 h => (kstore 4 h v5 v10).bind fun h => n3 k G v0 v2 v3 v4 v5 h
theorem n2_eq (G : KT2 R) (σ : GS) (h : Heap) : KC k 62 c2 σ h (fun x σ h => G x (σ 2) (σ 3) h) = n2 k G (σ 0) (σ 2) (σ 3) (σ 4) h := (kseq (a := c15) (b := c3) rfl (fun σ h => n3_eq k G σ h)).trans (by kernel_rfl)
noncomputable def c16 : Code := cL c1
@[simp] def n1 (G : KT2 R) (v0 v2 v3 : GV) (h : Heap) : Option R := (kF false HH fn.strings_Split [v0, (.str { data := #[32] })] h).bind fun r => kr r fun v7 h => (gfill (fun i => some (i * 1, 1)) (zeros [(.str { data := #[] })] 3) [(0, (.str { data := #[] })), (1, (.str { data := #[] })), (2, (.str { data := #[] }))]).bind fun c => kbs 3 1 c h fun v8 h => (kapp [(.str { data := #[] })] 1 16 v7 v8 h).bind fun r => kr r fun v9 h => n2 k G v0 v2 v3 v9 h
theorem n1_eq (G : KT2 R) (σ : GS) (h : Heap) : KC k 62 c1 σ h (fun x σ h => G x (σ 2) (σ 3) h) = n1 k G (σ 0) (σ 2) (σ 3) h := (kseq (a := c16) (b := c2) rfl (fun σ h => n2_eq k G σ h)).trans (by kernel_rfl)
noncomputable def c17 : Code := cL c0
@[simp] def n0 (G : KT2 R) (v0 : GV) (h : Heap) : Option R := kalloc [(.int .i64 0), (.int .i64 0), (.int .i64 0), (.str { data := #[] })] h fun v2 h => n1 k G v0 v2 (.bool false) h
theorem n0_eq (G : KT2 R) (σ : GS) (h : Heap) : KC k 62 c0 σ h (fun x σ h => G x (σ 2) (σ 3) h) = n0 k G (σ 0) h := (kseq (a := c17) (b := c1) rfl (fun σ h => n1_eq k G σ h)).trans (by kernel_rfl)
def run {R : Type} (k : Nat) (a0 : GV) (h : Heap) (fin : GV → Heap → Option R) : Option R := n0 k (fun x v2 v3 h => kend x ((kloadA 4 h v2).bind fun w2 => fin (.tup [w2, v3]) h)) a0 h
theorem run_eq {R : Type} (k : Nat) (a0 : GV) (h : Heap) (fin : GV → Heap → Option R) : kfun PP cfg NN HH k fn.impl_ReadEntry [a0] h fin = run k a0 h fin := (kfun_eq (nt := 62) (c := c0) (show PP.funcs[fn.impl_ReadEntry]? = some Tryd.f30 by kernel_rfl) (by kernel_rfl) (by kernel_rfl) (fun x σ h => by cases x <;> kernel_rfl)).trans (n0_eq k (fun x v2 v3 h => kend x ((kloadA 4 h v2).bind fun w2 => fin (.tup [w2, v3]) h)) _ h)
theorem gives {k : Nat} {a0 : GV} {v : GV} (e : run k a0 [] finN = some v) : NN fn.impl_ReadEntry [a0] = some v := nω_of (by kernel_rfl) ((run_eq k a0 [] finN).trans e)
end S.impl_ReadEntry
/-! spec_ReadEntry -/
namespace S.spec_ReadEntry
noncomputable def c0 : Code := bodyOf Tryd.f29
noncomputable def c1 : Code := cR c0
noncomputable def c2 : Code := cR c1
noncomputable def c3 : Code := cR c2
noncomputable def c4 : Code := cR c3
noncomputable def c5 : Code := cR c4
noncomputable def c6 : Code := cR c5
noncomputable def c7 : Code := cR c6
noncomputable def c8 : Code := cR c7
noncomputable def c9 : Code := cR c8
noncomputable def c10 : Code := cR c9
@[simp] def n10 {R : Type} (k : Nat) (G : KT2 R) (v2 v5 : GV) (h : Heap) : Option R := (kloadA 4 h v5).bind fun v112 => (kstore 4 h v2 v112).bind fun h => G .ret v2 (.bool true) h
theorem n10_eq (G : KT2 R) (σ : GS) (h : Heap) : KC k 113 c10 σ h (fun x σ h => G x (σ 2) (σ 3) h) = n10 k G (σ 2) (σ 5) h := by kernel_rfl
noncomputable def c11 : Code := cL c9
noncomputable def c12 : Code := cR c11
@[simp] def n12 {R : Type} (k : Nat) (G : KT3 R) (v2 v3 v5 v110 : GV) (h : Heap) : Option R := kcond v110 ((gfill (fun i => [(0, 1), (1, 1), (2, 1), (3, 1)][i]?) [(.int .i64 0), (.int .i64 0), (.int .i64 0), (.str { data := #[] })] []).bind fun c => kagg c h fun v111 h => (kstore 4 h v2 v111).bind fun h => G .ret v2 (.bool false) v5 h) (G .nrm v2 v3 v5 h)
theorem n12_eq (G : KT3 R) (σ : GS) (h : Heap) : KC k 113 c12 σ h (fun x σ h => G x (σ 2) (σ 3) (σ 5) h) = n12 k G (σ 2) (σ 3) (σ 5) (σ 110) h := by kernel_rfl
noncomputable def c13 : Code := cL c11
noncomputable def o13 : Array Oper := cO c13
@[simp] def g13_2 {R : Type} (k : Nat) (G : KT4 R) (v2 v3 v5 v105 v109 : GV) (h : Heap) : Option R := (kpick v105 (.bool true) v109).bind fun v110 => G .nrm v2 v3 v5 v110 h
theorem g13_2_eq (G : KT4 R) (σ : GS) (h : Heap) : kgroups PP cfg NN HH 113 o13 [(none, [8])] σ h (fun σ h => G .nrm (σ 2) (σ 3) (σ 5) (σ 110) h) = g13_2 k G (σ 2) (σ 3) (σ 5) (σ 105) (σ 109) h := by kernel_rfl
@[simp] def g13_1 (G : KT4 R) (v0 v2 v3 v5 v105 : GV) (h : Heap) : Option R := bif tr false v105 then (kloadA 4 h v5).bind fun v106 => (kN NN fn.spec_l18Show [v106] h).bind fun v107 => (kbin .neq v107 v0).bind fun v109 => g13_2 k G v2 v3 v5 v105 v109 h else g13_2 k G v2 v3 v5 v105 .un h
theorem g13_1_eq (G : KT4 R) (σ : GS) (h : Heap) : kgroups PP cfg NN HH 113 o13 [(some (3, false), [4, 5, 6, 7]), (none, [8])] σ h (fun σ h => G .nrm (σ 2) (σ 3) (σ 5) (σ 110) h) = g13_1 k G (σ 0) (σ 2) (σ 3) (σ 5) (σ 105) h := (kgroups_cons (fun σ h => g13_2_eq k G σ h)).trans (by kernel_rfl)
@[simp] def g13_0 (G : KT4 R) (v0 v2 v3 v5 : GV) (h : Heap) : Option R := (kloadA 4 h v5).bind fun v102 => (kN NN fn.spec_EntryOk [v102] h).bind fun v103 => (kun .not v103).bind fun v104 => g13_1 k G v0 v2 v3 v5 v104 h
theorem g13_0_eq (G : KT4 R) (σ : GS) (h : Heap) : kgroups PP cfg NN HH 113 o13 [(none, [0, 1, 2, 3]), (some (3, false), [4, 5, 6, 7]), (none, [8])] σ h (fun σ h => G .nrm (σ 2) (σ 3) (σ 5) (σ 110) h) = g13_0 k G (σ 0) (σ 2) (σ 3) (σ 5) h := (kgroups_cons (fun σ h => g13_1_eq k G σ h)).trans (by kernel_rfl)
@[simp] def n13 (G : KT4 R) (v0 v2 v3 v5 : GV) (h : Heap) : Option R := g13_0 k G v0 v2 v3 v5 h
theorem n13_eq (G : KT4 R) (σ : GS) (h : Heap) : KC k 113 c13 σ h (fun x σ h => G x (σ 2) (σ 3) (σ 5) (σ 110) h) = n13 k G (σ 0) (σ 2) (σ 3) (σ 5) h := (kregion_eq (id := 23) (draw := false) (ops := o13) (gs := [(none, [0, 1, 2, 3]), (some (3, false), [4, 5, 6, 7]), (none, [8])]) (by kernel_rfl) (by kernel_rfl) (by kernel_rfl)).trans (g13_0_eq k G σ h)
@[simp] def n11 (G : KT3 R) (v0 v2 v3 v5 : GV) (h : Heap) : Option R := n13 k (fun x v2 v3 v5 v110 h => kx x (n12 k G v2 v3 v5 v110 h) (G x v2 v3 v5 h)) v0 v2 v3 v5 h
theorem n11_eq (G : KT3 R) (σ : GS) (h : Heap) : KC k 113 c11 σ h (fun x σ h => G x (σ 2) (σ 3) (σ 5) h) = n11 k G (σ 0) (σ 2) (σ 3) (σ 5) h := (kseq (b := c12) rfl (fun σ h => n12_eq k G σ h)).trans (n13_eq k (fun x v2 v3 v5 v110 h => kx x (n12 k G v2 v3 v5 v110 h) (G x v2 v3 v5 h)) σ h)
@[simp] def n9 (G : KT2 R) (v0 v2 v3 v5 : GV) (h : Heap) : Option R := n11 k (fun x v2 v3 v5 h => kx x (n10 k G v2 v5 h) (G x v2 v3 h)) v0 v2 v3 v5 h
theorem n9_eq (G : KT2 R) (σ : GS) (h : Heap) : KC k 113 c9 σ h (fun x σ h => G x (σ 2) (σ 3) h) = n9 k G (σ 0) (σ 2) (σ 3) (σ 5) h := (kseq (b := c10) rfl (fun σ h => n10_eq k G σ h)).trans (n11_eq k (fun x v2 v3 v5 h => kx x (n10 k G v2 v5 h) (G x v2 v3 h)) σ h)
noncomputable def c14 : Code := cL c8
@[simp] def n8 (G : KT2 R) (v0 v2 v3 v5 v11 : GV) (h : Heap) : Option R := (kbstr h v11).bind fun v100 => (kfa 3 v5).bind fun v101 => (kstore 1 h v101 v100).bind fun h => n9 k G v0 v2 v3 v5 h
theorem n8_eq (G : KT2 R) (σ : GS) (h : Heap) : KC k 113 c8 σ h (fun x σ h => G x (σ 2) (σ 3) h) = n8 k G (σ 0) (σ 2) (σ 3) (σ 5) (σ 11) h := (kseq (a := c14) (b := c9) rfl (fun σ h => n9_eq k G σ h)).trans (by kernel_rfl)
noncomputable def c15 : Code := cL c7
noncomputable def c16 : Code := cR c15
noncomputable def c17 : Code := cL c16
noncomputable def c18 : Code := cL c17
noncomputable def c19 : Code := cR c18
noncomputable def c20 : Code := cR c19
@[simp] def n20 {R : Type} (k : Nat) (G : KT7 R) (v0 v2 v3 v5 v6 v11 v12 : GV) (h : Heap) : Option R := (kbin .add v12 (.int .i64 2)).bind fun v83 => G .nrm v0 v2 v3 v5 v6 v11 v83 h
theorem n20_eq (G : KT7 R) (σ : GS) (h : Heap) : KC k 113 c20 σ h (fun x σ h => G x (σ 0) (σ 2) (σ 3) (σ 5) (σ 6) (σ 11) (σ 12) h) = n20 k G (σ 0) (σ 2) (σ 3) (σ 5) (σ 6) (σ 11) (σ 12) h := by kernel_rfl
noncomputable def c21 : Code := cL c19
noncomputable def c22 : Code := cL c21
@[simp] def n22 {R : Type} (k : Nat) (G : KT7 R) (v0 v2 v3 v5 v6 v11 v12 : GV) (h : Heap) : Option R := (kbyte v6 v12).bind fun v87 => (kN NN fn.spec_l18Digit [v87] h).bind fun v88 => (kbin .mul (.int .i64 16) v88).bind fun v89 => (kbin .add v12 (.int .i64 1)).bind fun v92 => (kbyte v6 v92).bind fun v93 => (kN NN fn.spec_l18Digit [v93] h).bind fun v94 => (kbin .add v89 v94).bind fun v95 => (kconvI .u8 v95).bind fun v96 => (gfill (fun i => some (i * 1, 1)) (zeros [(.int .u8 0)] 1) [(0, v96)]).bind fun c => kbs 1 1 c h fun v97 h => (kapp [(.int .u8 0)] 1 1 v11 v97 h).bind fun r => kr r fun v98 h => G .nrm v0 v2 v3 v5 v6 v98 v12 h
theorem n22_eq (G : KT7 R) (σ : GS) (h : Heap) : KC k 113 c22 σ h (fun x σ h => G x (σ 0) (σ 2) (σ 3) (σ 5) (σ 6) (σ 11) (σ 12) h) = n22 k G (σ 0) (σ 2) (σ 3) (σ 5) (σ 6) (σ 11) (σ 12) h := by kernel_rfl
@[simp] def n21 (G : KT7 R) (v0 v2 v3 v5 v6 v11 v12 : GV) (h : Heap) : Option R := n22 k (fun x v0 v2 v3 v5 v6 v11 v12 h => kb 2 x fun x => G x v0 v2 v3 v5 v6 v11 v12 h) v0 v2 v3 v5 v6 v11 v12 h
theorem n21_eq (G : KT7 R) (σ : GS) (h : Heap) : KC k 113 c21 σ h (fun x σ h => G x (σ 0) (σ 2) (σ 3) (σ 5) (σ 6) (σ 11) (σ 12) h) = n21 k G (σ 0) (σ 2) (σ 3) (σ 5) (σ 6) (σ 11) (σ 12) h := (kblock_eq (a := c22) rfl).trans (n22_eq k (fun x v0 v2 v3 v5 v6 v11 v12 h => kb 2 x fun x => G x v0 v2 v3 v5 v6 v11 v12 h) σ h)
@[simp] def n19 (G : KT7 R) (v0 v2 v3 v5 v6 v11 v12 : GV) (h : Heap) : Option R := n21 k (fun x v0 v2 v3 v5 v6 v11 v12 h => kx x (n20 k G v0 v2 v3 v5 v6 v11 v12 h) (G x v0 v2 v3 v5 v6 v11 v12 h)) v0 v2 v3 v5 v6 v11 v12 h
theorem n19_eq (G : KT7 R) (σ : GS) (h : Heap) : KC k 113 c19 σ h (fun x σ h => G x (σ 0) (σ 2) (σ 3) (σ 5) (σ 6) (σ 11) (σ 12) h) = n19 k G (σ 0) (σ 2) (σ 3) (σ 5) (σ 6) (σ 11) (σ 12) h := (kseq (b := c20) rfl (fun σ h => n20_eq k G σ h)).trans (n21_eq k (fun x v0 v2 v3 v5 v6 v11 v12 h => kx x (n20 k G v0 v2 v3 v5 v6 v11 v12 h) (G x v0 v2 v3 v5 v6 v11 v12 h)) σ h)
noncomputable def c23 : Code := cL c18
@[simp] def n18 (G : KT7 R) (v0 v2 v3 v5 v6 v11 v12 : GV) (h : Heap) : Option R := (kbin .add v12 (.int .i64 1)).bind fun v78 => (klenS v6).bind fun v80 => (kbin .lss v78 v80).bind fun v81 => kcond v81 (n19 k G v0 v2 v3 v5 v6 v11 v12 h) (G (.ext 1) v0 v2 v3 v5 v6 v11 v12 h)
theorem n18_eq (G : KT7 R) (σ : GS) (h : Heap) : KC k 113 c18 σ h (fun x σ h => G x (σ 0) (σ 2) (σ 3) (σ 5) (σ 6) (σ 11) (σ 12) h) = n18 k G (σ 0) (σ 2) (σ 3) (σ 5) (σ 6) (σ 11) (σ 12) h := (kseq (a := c23) (b := c19) rfl (fun σ h => n19_eq k G σ h)).trans (by kernel_rfl)
def l17 {R : Type} (k : Nat) (G : KT5 R) : Nat → GV → GV → GV → GV → GV → GV → GV → Heap → Option R
  | 0, _, _, _, _, _, _, _, _ => none
  | r + 1, v0, v2, v3, v5, v6, v11, v12, h => n18 k (fun x v0 v2 v3 v5 v6 v11 v12 h => kx x (l17 k G r v0 v2 v3 v5 v6 v11 v12 h) (G x v0 v2 v3 v5 v11 h)) v0 v2 v3 v5 v6 v11 v12 h
theorem l17_eq {R : Type} (k : Nat) (G : KT5 R) : ∀ (r : Nat) (σ : GS) (h : Heap), kloop (fun σ h K => KC k 113 c18 σ h K) r σ h (fun x σ h => G x (σ 0) (σ 2) (σ 3) (σ 5) (σ 11) h) = l17 k G r (σ 0) (σ 2) (σ 3) (σ 5) (σ 6) (σ 11) (σ 12) h
  | 0, _, _ => rfl
  | r + 1, σ, h => (kloop_eq (fun σ h => l17_eq k G r σ h)).trans (n18_eq k (fun x v0 v2 v3 v5 v6 v11 v12 h => kx x (l17 k G r v0 v2 v3 v5 v6 v11 v12 h) (G x v0 v2 v3 v5 v11 h)) σ h)
@[simp] def n17 (G : KT5 R) (v0 v2 v3 v5 v6 v11 v12 : GV) (h : Heap) : Option R := l17 k G k v0 v2 v3 v5 v6 v11 v12 h
theorem n17_eq (G : KT5 R) (σ : GS) (h : Heap) : KC k 113 c17 σ h (fun x σ h => G x (σ 0) (σ 2) (σ 3) (σ 5) (σ 11) h) = n17 k G (σ 0) (σ 2) (σ 3) (σ 5) (σ 6) (σ 11) (σ 12) h := (kloopc_eq (a := c18) rfl).trans (l17_eq k G k σ h)
@[simp] def n16 (G : KT5 R) (v0 v2 v3 v5 v6 v11 v12 : GV) (h : Heap) : Option R := n17 k (fun x v0 v2 v3 v5 v11 h => kb 1 x fun x => G x v0 v2 v3 v5 v11 h) v0 v2 v3 v5 v6 v11 v12 h
theorem n16_eq (G : KT5 R) (σ : GS) (h : Heap) : KC k 113 c16 σ h (fun x σ h => G x (σ 0) (σ 2) (σ 3) (σ 5) (σ 11) h) = n16 k G (σ 0) (σ 2) (σ 3) (σ 5) (σ 6) (σ 11) (σ 12) h := (kblock_eq (a := c17) rfl).trans (n17_eq k (fun x v0 v2 v3 v5 v11 h => kb 1 x fun x => G x v0 v2 v3 v5 v11 h) σ h)
noncomputable def c24 : Code := cL c15
@[simp] def n15 (G : KT5 R) (v0 v2 v3 v5 v6 v11 : GV) (h : Heap) : Option R := n16 k G v0 v2 v3 v5 v6 v11 (.int .i64 0) h
theorem n15_eq (G : KT5 R) (σ : GS) (h : Heap) : KC k 113 c15 σ h (fun x σ h => G x (σ 0) (σ 2) (σ 3) (σ 5) (σ 11) h) = n15 k G (σ 0) (σ 2) (σ 3) (σ 5) (σ 6) (σ 11) h := (kseq (a := c24) (b := c16) rfl (fun σ h => n16_eq k G σ h)).trans (by kernel_rfl)
@[simp] def n7 (G : KT2 R) (v0 v2 v3 v5 v6 v11 : GV) (h : Heap) : Option R := n15 k (fun x v0 v2 v3 v5 v11 h => kx x (n8 k G v0 v2 v3 v5 v11 h) (G x v2 v3 h)) v0 v2 v3 v5 v6 v11 h
theorem n7_eq (G : KT2 R) (σ : GS) (h : Heap) : KC k 113 c7 σ h (fun x σ h => G x (σ 2) (σ 3) h) = n7 k G (σ 0) (σ 2) (σ 3) (σ 5) (σ 6) (σ 11) h := (kseq (b := c8) rfl (fun σ h => n8_eq k G σ h)).trans (n15_eq k (fun x v0 v2 v3 v5 v11 h => kx x (n8 k G v0 v2 v3 v5 v11 h) (G x v2 v3 h)) σ h)
noncomputable def c25 : Code := cL c6
@[simp] def n6 (G : KT2 R) (v0 v2 v3 v5 v6 : GV) (h : Heap) : Option R := n7 k G v0 v2 v3 v5 v6 .emp h
theorem n6_eq (G : KT2 R) (σ : GS) (h : Heap) : KC k 113 c6 σ h (fun x σ h => G x (σ 2) (σ 3) h) = n6 k G (σ 0) (σ 2) (σ 3) (σ 5) (σ 6) h := (kseq (a := c25) (b := c7) rfl (fun σ h => n7_eq k G σ h)).trans (by kernel_rfl)
noncomputable def c26 : Code := cL c5
@[simp] def n5 (G : KT2 R) (v0 v2 v3 v4 v5 v6 : GV) (h : Heap) : Option R := (klen v4).bind fun v56 => (kbin .gtr v56 (.int .i64 2)).bind fun v57 => kcond v57 ((kia 1 v4 (.int .i64 1)).bind fun v60 => (kload1 h v60).bind fun v61 => (kN NN fn.spec_l10Number [v61] h).bind fun v62 => (kxt 0 v62).bind fun v63 => (kxt 1 v62).bind fun v64 => (kia 1 v4 (.int .i64 2)).bind fun v67 => (kload1 h v67).bind fun v68 => (kN NN fn.spec_l10Number [v68] h).bind fun v69 => (kxt 0 v69).bind fun v70 => (kxt 1 v69).bind fun v71 => (kfa 1 v5).bind fun v73 => (kstore 1 h v73 v63).bind fun h => (kfa 2 v5).bind fun v75 => (kstore 1 h v75 v70).bind fun h => n6 k G v0 v2 v3 v5 v6 h) (n6 k G v0 v2 v3 v5 v6 h)
theorem n5_eq (G : KT2 R) (σ : GS) (h : Heap) : KC k 113 c5 σ h (fun x σ h => G x (σ 2) (σ 3) h) = n5 k G (σ 0) (σ 2) (σ 3) (σ 4) (σ 5) (σ 6) h := (kseq (a := c26) (b := c6) rfl (fun σ h => n6_eq k G σ h)).trans (by kernel_rfl)
noncomputable def c27 : Code := cL c4
noncomputable def c28 : Code := cL c27
noncomputable def c29 : Code := cR c28
noncomputable def c30 : Code := cL c29
@[simp] def n30 {R : Type} (k : Nat) (G : KT6 R) (v0 v2 v3 v4 v5 v6 : GV) (h : Heap) : Option R := (kfa 0 v5).bind fun v26 => (kstore 1 h v26 (.int .i64 1)).bind fun h => (kia 1 v4 (.int .i64 3)).bind fun v28 => (kload1 h v28).bind fun v29 => G .nrm v0 v2 v3 v4 v5 v29 h
theorem n30_eq (G : KT6 R) (σ : GS) (h : Heap) : KC k 113 c30 σ h (fun x σ h => G x (σ 0) (σ 2) (σ 3) (σ 4) (σ 5) (σ 6) h) = n30 k G (σ 0) (σ 2) (σ 3) (σ 4) (σ 5) (σ 6) h := by kernel_rfl
noncomputable def c31 : Code := cR c29
noncomputable def c32 : Code := cR c31
noncomputable def c33 : Code := cL c32
@[simp] def n33 {R : Type} (k : Nat) (G : KT6 R) (v0 v2 v3 v4 v5 v6 : GV) (h : Heap) : Option R := (kfa 0 v5).bind fun v40 => (kstore 1 h v40 (.int .i64 2)).bind fun h => (kia 1 v4 (.int .i64 1)).bind fun v42 => (kload1 h v42).bind fun v43 => G .nrm v0 v2 v3 v4 v5 v43 h
theorem n33_eq (G : KT6 R) (σ : GS) (h : Heap) : KC k 113 c33 σ h (fun x σ h => G x (σ 0) (σ 2) (σ 3) (σ 4) (σ 5) (σ 6) h) = n33 k G (σ 0) (σ 2) (σ 3) (σ 4) (σ 5) (σ 6) h := by kernel_rfl
noncomputable def c34 : Code := cR c32
noncomputable def c35 : Code := cR c34
@[simp] def n35 {R : Type} (k : Nat) (G : KT6 R) (v0 v2 v3 v4 v5 v6 v44 : GV) (h : Heap) : Option R := kcond v44 ((kfa 0 v5).bind fun v54 => (kstore 1 h v54 (.int .i64 3)).bind fun h => G .nrm v0 v2 v3 v4 v5 v6 h) (G .nrm v0 v2 v3 v4 v5 v6 h)
theorem n35_eq (G : KT6 R) (σ : GS) (h : Heap) : KC k 113 c35 σ h (fun x σ h => G x (σ 0) (σ 2) (σ 3) (σ 4) (σ 5) (σ 6) h) = n35 k G (σ 0) (σ 2) (σ 3) (σ 4) (σ 5) (σ 6) (σ 44) h := by kernel_rfl
noncomputable def c36 : Code := cL c34
noncomputable def o36 : Array Oper := cO c36
@[simp] def g36_2 {R : Type} (k : Nat) (G : KT7 R) (v0 v2 v3 v4 v5 v6 v49 v52 : GV) (h : Heap) : Option R := (kpick v49 v52 (.bool false)).bind fun v53 => G .nrm v0 v2 v3 v4 v5 v6 v53 h
theorem g36_2_eq (G : KT7 R) (σ : GS) (h : Heap) : kgroups PP cfg NN HH 113 o36 [(none, [8, 9])] σ h (fun σ h => G .nrm (σ 0) (σ 2) (σ 3) (σ 4) (σ 5) (σ 6) (σ 44) h) = g36_2 k G (σ 0) (σ 2) (σ 3) (σ 4) (σ 5) (σ 6) (σ 49) (σ 52) h := by kernel_rfl
@[simp] def g36_1 (G : KT7 R) (v0 v2 v3 v4 v5 v6 v49 : GV) (h : Heap) : Option R := bif tr true v49 then (klen v4).bind fun v51 => (kbin .eql v51 (.int .i64 3)).bind fun v52 => g36_2 k G v0 v2 v3 v4 v5 v6 v49 v52 h else g36_2 k G v0 v2 v3 v4 v5 v6 v49 .un h
theorem g36_1_eq (G : KT7 R) (σ : GS) (h : Heap) : kgroups PP cfg NN HH 113 o36 [(some (4, true), [5, 6, 7]), (none, [8, 9])] σ h (fun σ h => G .nrm (σ 0) (σ 2) (σ 3) (σ 4) (σ 5) (σ 6) (σ 44) h) = g36_1 k G (σ 0) (σ 2) (σ 3) (σ 4) (σ 5) (σ 6) (σ 49) h := (kgroups_cons (fun σ h => g36_2_eq k G σ h)).trans (by kernel_rfl)
@[simp] def g36_0 (G : KT7 R) (v0 v2 v3 v4 v5 v6 : GV) (h : Heap) : Option R := (kia 1 v4 (.int .i64 0)).bind fun v46 => (kload1 h v46).bind fun v47 => (kbin .eql v47 (.str { data := #[115, 105, 122, 101] })).bind fun v48 => g36_1 k G v0 v2 v3 v4 v5 v6 v48 h
theorem g36_0_eq (G : KT7 R) (σ : GS) (h : Heap) : kgroups PP cfg NN HH 113 o36 [(none, [0, 1, 2, 3, 4]), (some (4, true), [5, 6, 7]), (none, [8, 9])] σ h (fun σ h => G .nrm (σ 0) (σ 2) (σ 3) (σ 4) (σ 5) (σ 6) (σ 44) h) = g36_0 k G (σ 0) (σ 2) (σ 3) (σ 4) (σ 5) (σ 6) h := (kgroups_cons (fun σ h => g36_1_eq k G σ h)).trans (by kernel_rfl)
@[simp] def n36 (G : KT7 R) (v0 v2 v3 v4 v5 v6 : GV) (h : Heap) : Option R := g36_0 k G v0 v2 v3 v4 v5 v6 h
theorem n36_eq (G : KT7 R) (σ : GS) (h : Heap) : KC k 113 c36 σ h (fun x σ h => G x (σ 0) (σ 2) (σ 3) (σ 4) (σ 5) (σ 6) (σ 44) h) = n36 k G (σ 0) (σ 2) (σ 3) (σ 4) (σ 5) (σ 6) h := (kregion_eq (id := 10) (draw := false) (ops := o36) (gs := [(none, [0, 1, 2, 3, 4]), (some (4, true), [5, 6, 7]), (none, [8, 9])]) (by kernel_rfl) (by kernel_rfl) (by kernel_rfl)).trans (g36_0_eq k G σ h)
@[simp] def n34 (G : KT6 R) (v0 v2 v3 v4 v5 v6 : GV) (h : Heap) : Option R := n36 k (fun x v0 v2 v3 v4 v5 v6 v44 h => kx x (n35 k G v0 v2 v3 v4 v5 v6 v44 h) (G x v0 v2 v3 v4 v5 v6 h)) v0 v2 v3 v4 v5 v6 h
theorem n34_eq (G : KT6 R) (σ : GS) (h : Heap) : KC k 113 c34 σ h (fun x σ h => G x (σ 0) (σ 2) (σ 3) (σ 4) (σ 5) (σ 6) h) = n34 k G (σ 0) (σ 2) (σ 3) (σ 4) (σ 5) (σ 6) h := (kseq (b := c35) rfl (fun σ h => n35_eq k G σ h)).trans (n36_eq k (fun x v0 v2 v3 v4 v5 v6 v44 h => kx x (n35 k G v0 v2 v3 v4 v5 v6 v44 h) (G x v0 v2 v3 v4 v5 v6 h)) σ h)
@[simp] def n32 (G : KT6 R) (v0 v2 v3 v4 v5 v6 v30 : GV) (h : Heap) : Option R := kcond v30 (n33 k G v0 v2 v3 v4 v5 v6 h) (n34 k G v0 v2 v3 v4 v5 v6 h)
theorem n32_eq (G : KT6 R) (σ : GS) (h : Heap) : KC k 113 c32 σ h (fun x σ h => G x (σ 0) (σ 2) (σ 3) (σ 4) (σ 5) (σ 6) h) = n32 k G (σ 0) (σ 2) (σ 3) (σ 4) (σ 5) (σ 6) (σ 30) h := (kcond_eq (a := c33) (b := c34) rfl (by rfl)).trans (congr (congrArg (kcond (σ 30)) (n33_eq k G σ h)) (n34_eq k G σ h))
noncomputable def c37 : Code := cL c31
noncomputable def o37 : Array Oper := cO c37
@[simp] def g37_2 {R : Type} (k : Nat) (G : KT7 R) (v0 v2 v3 v4 v5 v6 v35 v38 : GV) (h : Heap) : Option R := (kpick v35 v38 (.bool false)).bind fun v39 => G .nrm v0 v2 v3 v4 v5 v6 v39 h
theorem g37_2_eq (G : KT7 R) (σ : GS) (h : Heap) : kgroups PP cfg NN HH 113 o37 [(none, [8, 9])] σ h (fun σ h => G .nrm (σ 0) (σ 2) (σ 3) (σ 4) (σ 5) (σ 6) (σ 30) h) = g37_2 k G (σ 0) (σ 2) (σ 3) (σ 4) (σ 5) (σ 6) (σ 35) (σ 38) h := by kernel_rfl
@[simp] def g37_1 (G : KT7 R) (v0 v2 v3 v4 v5 v6 v35 : GV) (h : Heap) : Option R := bif tr true v35 then (klen v4).bind fun v37 => (kbin .eql v37 (.int .i64 2)).bind fun v38 => g37_2 k G v0 v2 v3 v4 v5 v6 v35 v38 h else g37_2 k G v0 v2 v3 v4 v5 v6 v35 .un h
theorem g37_1_eq (G : KT7 R) (σ : GS) (h : Heap) : kgroups PP cfg NN HH 113 o37 [(some (4, true), [5, 6, 7]), (none, [8, 9])] σ h (fun σ h => G .nrm (σ 0) (σ 2) (σ 3) (σ 4) (σ 5) (σ 6) (σ 30) h) = g37_1 k G (σ 0) (σ 2) (σ 3) (σ 4) (σ 5) (σ 6) (σ 35) h := (kgroups_cons (fun σ h => g37_2_eq k G σ h)).trans (by kernel_rfl)
@[simp] def g37_0 (G : KT7 R) (v0 v2 v3 v4 v5 v6 : GV) (h : Heap) : Option R := (kia 1 v4 (.int .i64 0)).bind fun v32 => (kload1 h v32).bind fun v33 => (kbin .eql v33 (.str { data := #[111, 117, 116] })).bind fun v34 => g37_1 k G v0 v2 v3 v4 v5 v6 v34 h
theorem g37_0_eq (G : KT7 R) (σ : GS) (h : Heap) : kgroups PP cfg NN HH 113 o37 [(none, [0, 1, 2, 3, 4]), (some (4, true), [5, 6, 7]), (none, [8, 9])] σ h (fun σ h => G .nrm (σ 0) (σ 2) (σ 3) (σ 4) (σ 5) (σ 6) (σ 30) h) = g37_0 k G (σ 0) (σ 2) (σ 3) (σ 4) (σ 5) (σ 6) h := (kgroups_cons (fun σ h => g37_1_eq k G σ h)).trans (by kernel_rfl)
@[simp] def n37 (G : KT7 R) (v0 v2 v3 v4 v5 v6 : GV) (h : Heap) : Option R := g37_0 k G v0 v2 v3 v4 v5 v6 h
theorem n37_eq (G : KT7 R) (σ : GS) (h : Heap) : KC k 113 c37 σ h (fun x σ h => G x (σ 0) (σ 2) (σ 3) (σ 4) (σ 5) (σ 6) (σ 30) h) = n37 k G (σ 0) (σ 2) (σ 3) (σ 4) (σ 5) (σ 6) h := (kregion_eq (id := 7) (draw := false) (ops := o37) (gs := [(none, [0, 1, 2, 3, 4]), (some (4, true), [5, 6, 7]), (none, [8, 9])]) (by kernel_rfl) (by kernel_rfl) (by kernel_rfl)).trans (g37_0_eq k G σ h)
@[simp] def n31 (G : KT6 R) (v0 v2 v3 v4 v5 v6 : GV) (h : Heap) : Option R := n37 k (fun x v0 v2 v3 v4 v5 v6 v30 h => kx x (n32 k G v0 v2 v3 v4 v5 v6 v30 h) (G x v0 v2 v3 v4 v5 v6 h)) v0 v2 v3 v4 v5 v6 h
theorem n31_eq (G : KT6 R) (σ : GS) (h : Heap) : KC k 113 c31 σ h (fun x σ h => G x (σ 0) (σ 2) (σ 3) (σ 4) (σ 5) (σ 6) h) = n31 k G (σ 0) (σ 2) (σ 3) (σ 4) (σ 5) (σ 6) h := (kseq (b := c32) rfl (fun σ h => n32_eq k G σ h)).trans (n37_eq k (fun x v0 v2 v3 v4 v5 v6 v30 h => kx x (n32 k G v0 v2 v3 v4 v5 v6 v30 h) (G x v0 v2 v3 v4 v5 v6 h)) σ h)
@[simp] def n29 (G : KT6 R) (v0 v2 v3 v4 v5 v6 v16 : GV) (h : Heap) : Option R := kcond v16 (n30 k G v0 v2 v3 v4 v5 v6 h) (n31 k G v0 v2 v3 v4 v5 v6 h)
theorem n29_eq (G : KT6 R) (σ : GS) (h : Heap) : KC k 113 c29 σ h (fun x σ h => G x (σ 0) (σ 2) (σ 3) (σ 4) (σ 5) (σ 6) h) = n29 k G (σ 0) (σ 2) (σ 3) (σ 4) (σ 5) (σ 6) (σ 16) h := (kcond_eq (a := c30) (b := c31) rfl (by rfl)).trans (congr (congrArg (kcond (σ 16)) (n30_eq k G σ h)) (n31_eq k G σ h))
noncomputable def c38 : Code := cL c28
noncomputable def o38 : Array Oper := cO c38
@[simp] def g38_2 {R : Type} (k : Nat) (G : KT7 R) (v0 v2 v3 v4 v5 v6 v21 v24 : GV) (h : Heap) : Option R := (kpick v21 v24 (.bool false)).bind fun v25 => G .nrm v0 v2 v3 v4 v5 v6 v25 h
theorem g38_2_eq (G : KT7 R) (σ : GS) (h : Heap) : kgroups PP cfg NN HH 113 o38 [(none, [8, 9])] σ h (fun σ h => G .nrm (σ 0) (σ 2) (σ 3) (σ 4) (σ 5) (σ 6) (σ 16) h) = g38_2 k G (σ 0) (σ 2) (σ 3) (σ 4) (σ 5) (σ 6) (σ 21) (σ 24) h := by kernel_rfl
@[simp] def g38_1 (G : KT7 R) (v0 v2 v3 v4 v5 v6 v21 : GV) (h : Heap) : Option R := bif tr true v21 then (klen v4).bind fun v23 => (kbin .eql v23 (.int .i64 4)).bind fun v24 => g38_2 k G v0 v2 v3 v4 v5 v6 v21 v24 h else g38_2 k G v0 v2 v3 v4 v5 v6 v21 .un h
theorem g38_1_eq (G : KT7 R) (σ : GS) (h : Heap) : kgroups PP cfg NN HH 113 o38 [(some (4, true), [5, 6, 7]), (none, [8, 9])] σ h (fun σ h => G .nrm (σ 0) (σ 2) (σ 3) (σ 4) (σ 5) (σ 6) (σ 16) h) = g38_1 k G (σ 0) (σ 2) (σ 3) (σ 4) (σ 5) (σ 6) (σ 21) h := (kgroups_cons (fun σ h => g38_2_eq k G σ h)).trans (by kernel_rfl)
@[simp] def g38_0 (G : KT7 R) (v0 v2 v3 v4 v5 v6 : GV) (h : Heap) : Option R := (kia 1 v4 (.int .i64 0)).bind fun v18 => (kload1 h v18).bind fun v19 => (kbin .eql v19 (.str { data := #[107, 101, 121, 115] })).bind fun v20 => g38_1 k G v0 v2 v3 v4 v5 v6 v20 h
theorem g38_0_eq (G : KT7 R) (σ : GS) (h : Heap) : kgroups PP cfg NN HH 113 o38 [(none, [0, 1, 2, 3, 4]), (some (4, true), [5, 6, 7]), (none, [8, 9])] σ h (fun σ h => G .nrm (σ 0) (σ 2) (σ 3) (σ 4) (σ 5) (σ 6) (σ 16) h) = g38_0 k G (σ 0) (σ 2) (σ 3) (σ 4) (σ 5) (σ 6) h := (kgroups_cons (fun σ h => g38_1_eq k G σ h)).trans (by kernel_rfl)
@[simp] def n38 (G : KT7 R) (v0 v2 v3 v4 v5 v6 : GV) (h : Heap) : Option R := g38_0 k G v0 v2 v3 v4 v5 v6 h
theorem n38_eq (G : KT7 R) (σ : GS) (h : Heap) : KC k 113 c38 σ h (fun x σ h => G x (σ 0) (σ 2) (σ 3) (σ 4) (σ 5) (σ 6) (σ 16) h) = n38 k G (σ 0) (σ 2) (σ 3) (σ 4) (σ 5) (σ 6) h := (kregion_eq (id := 4) (draw := false) (ops := o38) (gs := [(none, [0, 1, 2, 3, 4]), (some (4, true), [5, 6, 7]), (none, [8, 9])]) (by kernel_rfl) (by kernel_rfl) (by kernel_rfl)).trans (g38_0_eq k G σ h)
@[simp] def n28 (G : KT6 R) (v0 v2 v3 v4 v5 v6 : GV) (h : Heap) : Option R := n38 k (fun x v0 v2 v3 v4 v5 v6 v16 h => kx x (n29 k G v0 v2 v3 v4 v5 v6 v16 h) (G x v0 v2 v3 v4 v5 v6 h)) v0 v2 v3 v4 v5 v6 h
theorem n28_eq (G : KT6 R) (σ : GS) (h : Heap) : KC k 113 c28 σ h (fun x σ h => G x (σ 0) (σ 2) (σ 3) (σ 4) (σ 5) (σ 6) h) = n28 k G (σ 0) (σ 2) (σ 3) (σ 4) (σ 5) (σ 6) h := (kseq (b := c29) rfl (fun σ h => n29_eq k G σ h)).trans (n38_eq k (fun x v0 v2 v3 v4 v5 v6 v16 h => kx x (n29 k G v0 v2 v3 v4 v5 v6 v16 h) (G x v0 v2 v3 v4 v5 v6 h)) σ h)
@[simp] def n27 (G : KT6 R) (v0 v2 v3 v4 v5 v6 : GV) (h : Heap) : Option R := n28 k (fun x v0 v2 v3 v4 v5 v6 h => kb 0 x fun x => G x v0 v2 v3 v4 v5 v6 h) v0 v2 v3 v4 v5 v6 h
theorem n27_eq (G : KT6 R) (σ : GS) (h : Heap) : KC k 113 c27 σ h (fun x σ h => G x (σ 0) (σ 2) (σ 3) (σ 4) (σ 5) (σ 6) h) = n27 k G (σ 0) (σ 2) (σ 3) (σ 4) (σ 5) (σ 6) h := (kblock_eq (a := c28) rfl).trans (n28_eq k (fun x v0 v2 v3 v4 v5 v6 h => kb 0 x fun x => G x v0 v2 v3 v4 v5 v6 h) σ h)
@[simp] def n4 (G : KT2 R) (v0 v2 v3 v4 v5 v6 : GV) (h : Heap) : Option R := n27 k (fun x v0 v2 v3 v4 v5 v6 h => kx x (n5 k G v0 v2 v3 v4 v5 v6 h) (G x v2 v3 h)) v0 v2 v3 v4 v5 v6 h
theorem n4_eq (G : KT2 R) (σ : GS) (h : Heap) : KC k 113 c4 σ h (fun x σ h => G x (σ 2) (σ 3) h) = n4 k G (σ 0) (σ 2) (σ 3) (σ 4) (σ 5) (σ 6) h := (kseq (b := c5) rfl (fun σ h => n5_eq k G σ h)).trans (n27_eq k (fun x v0 v2 v3 v4 v5 v6 h => kx x (n5 k G v0 v2 v3 v4 v5 v6 h) (G x v2 v3 h)) σ h)
noncomputable def c39 : Code := cL c3
@[simp] def n3 (G : KT2 R) (v0 v2 v3 v4 v5 : GV) (h : Heap) : Option R := n4 k G v0 v2 v3 v4 v5 (.str { data := #[] }) h
theorem n3_eq (G : KT2 R) (σ : GS) (h : Heap) : KC k 113 c3 σ h (fun x σ h => G x (σ 2) (σ 3) h) = n3 k G (σ 0) (σ 2) (σ 3) (σ 4) (σ 5) h := (kseq (a := c39) (b := c4) rfl (fun σ h => n4_eq k G σ h)).trans (by kernel_rfl)
noncomputable def c40 : Code := cL c2
@[simp] def n2 (G : KT2 R) (v0 v2 v3 v4 : GV) (h : Heap) : Option R := (gfill (fun i => [(0, 1), (1, 1), (2, 1), (3, 1)][i]?) [(.int .i64 0), (.int .i64 0), (.int .i64 0), (.str { data := #[] })] []).bind fun c => kagg c h fun v15 h => kalloc [(.int .i64 0), (.int .i64 0), (.int .i64 0), (.str { data := #[] })] h fun v5 h => (kstore 4 h v5 v15).bind fun h => n3 k G v0 v2 v3 v4 v5 h
theorem n2_eq (G : KT2 R) (σ : GS) (h : Heap) : KC k 113 c2 σ h (fun x σ h => G x (σ 2) (σ 3) h) = n2 k G (σ 0) (σ 2) (σ 3) (σ 4) h := (kseq (a := c40) (b := c3) rfl (fun σ h => n3_eq k G σ h)).trans (by kernel_rfl)
noncomputable def c41 : Code := cL c1
@[simp] def n1 (G : KT2 R) (v0 v2 v3 : GV) (h : Heap) : Option R := (kN NN fn.spec_l18Words [v0] h).bind fun v14 => n2 k G v0 v2 v3 v14 h
theorem n1_eq (G : KT2 R) (σ : GS) (h : Heap) : KC k 113 c1 σ h (fun x σ h => G x (σ 2) (σ 3) h) = n1 k G (σ 0) (σ 2) (σ 3) h := (kseq (a := c41) (b := c2) rfl (fun σ h => n2_eq k G σ h)).trans (by kernel_rfl)
noncomputable def c42 : Code := cL c0
@[simp] def n0 (G : KT2 R) (v0 : GV) (h : Heap) : Option R := kalloc [(.int .i64 0), (.int .i64 0), (.int .i64 0), (.str { data := #[] })] h fun v2 h => n1 k G v0 v2 (.bool false) h
theorem n0_eq (G : KT2 R) (σ : GS) (h : Heap) : KC k 113 c0 σ h (fun x σ h => G x (σ 2) (σ 3) h) = n0 k G (σ 0) h := (kseq (a := c42) (b := c1) rfl (fun σ h => n1_eq k G σ h)).trans (by kernel_rfl)
def run {R : Type} (k : Nat) (a0 : GV) (h : Heap) (fin : GV → Heap → Option R) : Option R := n0 k (fun x v2 v3 h => kend x ((kloadA 4 h v2).bind fun w2 => fin (.tup [w2, v3]) h)) a0 h
theorem run_eq {R : Type} (k : Nat) (a0 : GV) (h : Heap) (fin : GV → Heap → Option R) : kfun PP cfg NN HH k fn.spec_ReadEntry [a0] h fin = run k a0 h fin := (kfun_eq (nt := 113) (c := c0) (show PP.funcs[fn.spec_ReadEntry]? = some Tryd.f29 by kernel_rfl) (by kernel_rfl) (by kernel_rfl) (fun x σ h => by cases x <;> kernel_rfl)).trans (n0_eq k (fun x v2 v3 h => kend x ((kloadA 4 h v2).bind fun w2 => fin (.tup [w2, v3]) h)) _ h)
theorem gives {k : Nat} {a0 : GV} {v : GV} (e : run k a0 [] finN = some v) : NN fn.spec_ReadEntry [a0] = some v := nω_of (by kernel_rfl) ((run_eq k a0 [] finN).trans e)
end S.spec_ReadEntry
/-! impl_unhex -/
namespace S.impl_unhex
noncomputable def c0 : Code := bodyOf Tryd.f86
noncomputable def c1 : Code := cR c0
noncomputable def c2 : Code := cR c1
noncomputable def c3 : Code := cR c2
@[simp] def n3 {R : Type} (k : Nat) (G : KT1 R) (v3 : GV) (h : Heap) : Option R := (kbstr h v3).bind fun v31 => G .ret v31 h
theorem n3_eq (G : KT1 R) (σ : GS) (h : Heap) : KC k 32 c3 σ h (fun x σ h => G x (σ 2) h) = n3 k G (σ 3) h := by kernel_rfl
noncomputable def c4 : Code := cL c2
noncomputable def c5 : Code := cR c4
noncomputable def c6 : Code := cL c5
noncomputable def c7 : Code := cL c6
noncomputable def c8 : Code := cR c7
noncomputable def c9 : Code := cR c8
@[simp] def n9 {R : Type} (k : Nat) (G : KT4 R) (v0 v2 v3 v4 : GV) (h : Heap) : Option R := (kbin .add v4 (.int .i64 2)).bind fun v12 => G .nrm v0 v2 v3 v12 h
theorem n9_eq (G : KT4 R) (σ : GS) (h : Heap) : KC k 32 c9 σ h (fun x σ h => G x (σ 0) (σ 2) (σ 3) (σ 4) h) = n9 k G (σ 0) (σ 2) (σ 3) (σ 4) h := by kernel_rfl
noncomputable def c10 : Code := cL c8
noncomputable def c11 : Code := cL c10
@[simp] def n11 {R : Type} (k : Nat) (G : KT4 R) (v0 v2 v3 v4 : GV) (h : Heap) : Option R := (kbyte v0 v4).bind fun v16 => (kN NN fn.strings_IndexByte [(.str { data := #[48, 49, 50, 51, 52, 53, 54, 55, 56, 57, 97, 98, 99, 100, 101, 102] }), v16] h).bind fun v17 => (gmax (.int .i64 0) v17).bind fun v18 => (kbin .mul v18 (.int .i64 16)).bind fun v19 => (kbin .add v4 (.int .i64 1)).bind fun v22 => (kbyte v0 v22).bind fun v23 => (kN NN fn.strings_IndexByte [(.str { data := #[48, 49, 50, 51, 52, 53, 54, 55, 56, 57, 97, 98, 99, 100, 101, 102] }), v23] h).bind fun v24 => (gmax (.int .i64 0) v24).bind fun v25 => (kbin .add v19 v25).bind fun v26 => (kconvI .u8 v26).bind fun v27 => (gfill (fun i => some (i * 1, 1)) (zeros [(.int .u8 0)] 1) [(0, v27)]).bind fun c => kbs 1 1 c h fun v28 h => (kapp [(.int .u8 0)] 1 1 v3 v28 h).bind fun r => kr r fun v29 h => G .nrm v0 v2 v29 v4 h
theorem n11_eq (G : KT4 R) (σ : GS) (h : Heap) : KC k 32 c11 σ h (fun x σ h => G x (σ 0) (σ 2) (σ 3) (σ 4) h) = n11 k G (σ 0) (σ 2) (σ 3) (σ 4) h := by kernel_rfl
@[simp] def n10 (G : KT4 R) (v0 v2 v3 v4 : GV) (h : Heap) : Option R := n11 k (fun x v0 v2 v3 v4 h => kb 1 x fun x => G x v0 v2 v3 v4 h) v0 v2 v3 v4 h
theorem n10_eq (G : KT4 R) (σ : GS) (h : Heap) : KC k 32 c10 σ h (fun x σ h => G x (σ 0) (σ 2) (σ 3) (σ 4) h) = n10 k G (σ 0) (σ 2) (σ 3) (σ 4) h := (kblock_eq (a := c11) rfl).trans (n11_eq k (fun x v0 v2 v3 v4 h => kb 1 x fun x => G x v0 v2 v3 v4 h) σ h)
@[simp] def n8 (G : KT4 R) (v0 v2 v3 v4 : GV) (h : Heap) : Option R := n10 k (fun x v0 v2 v3 v4 h => kx x (n9 k G v0 v2 v3 v4 h) (G x v0 v2 v3 v4 h)) v0 v2 v3 v4 h
theorem n8_eq (G : KT4 R) (σ : GS) (h : Heap) : KC k 32 c8 σ h (fun x σ h => G x (σ 0) (σ 2) (σ 3) (σ 4) h) = n8 k G (σ 0) (σ 2) (σ 3) (σ 4) h := (kseq (b := c9) rfl (fun σ h => n9_eq k G σ h)).trans (n10_eq k (fun x v0 v2 v3 v4 h => kx x (n9 k G v0 v2 v3 v4 h) (G x v0 v2 v3 v4 h)) σ h)
noncomputable def c12 : Code := cL c7
@[simp] def n7 (G : KT4 R) (v0 v2 v3 v4 : GV) (h : Heap) : Option R := (kbin .add v4 (.int .i64 1)).bind fun v7 => (klenS v0).bind fun v9 => (kbin .lss v7 v9).bind fun v10 => kcond v10 (n8 k G v0 v2 v3 v4 h) (G (.ext 0) v0 v2 v3 v4 h)
theorem n7_eq (G : KT4 R) (σ : GS) (h : Heap) : KC k 32 c7 σ h (fun x σ h => G x (σ 0) (σ 2) (σ 3) (σ 4) h) = n7 k G (σ 0) (σ 2) (σ 3) (σ 4) h := (kseq (a := c12) (b := c8) rfl (fun σ h => n8_eq k G σ h)).trans (by kernel_rfl)
def l6 {R : Type} (k : Nat) (G : KT2 R) : Nat → GV → GV → GV → GV → Heap → Option R
  | 0, _, _, _, _, _ => none
  | r + 1, v0, v2, v3, v4, h => n7 k (fun x v0 v2 v3 v4 h => kx x (l6 k G r v0 v2 v3 v4 h) (G x v2 v3 h)) v0 v2 v3 v4 h
theorem l6_eq {R : Type} (k : Nat) (G : KT2 R) : ∀ (r : Nat) (σ : GS) (h : Heap), kloop (fun σ h K => KC k 32 c7 σ h K) r σ h (fun x σ h => G x (σ 2) (σ 3) h) = l6 k G r (σ 0) (σ 2) (σ 3) (σ 4) h
  | 0, _, _ => rfl
  | r + 1, σ, h => (kloop_eq (fun σ h => l6_eq k G r σ h)).trans (n7_eq k (fun x v0 v2 v3 v4 h => kx x (l6 k G r v0 v2 v3 v4 h) (G x v2 v3 h)) σ h)
@[simp] def n6 (G : KT2 R) (v0 v2 v3 v4 : GV) (h : Heap) : Option R := l6 k G k v0 v2 v3 v4 h
theorem n6_eq (G : KT2 R) (σ : GS) (h : Heap) : KC k 32 c6 σ h (fun x σ h => G x (σ 2) (σ 3) h) = n6 k G (σ 0) (σ 2) (σ 3) (σ 4) h := (kloopc_eq (a := c7) rfl).trans (l6_eq k G k σ h)
@[simp] def n5 (G : KT2 R) (v0 v2 v3 v4 : GV) (h : Heap) : Option R := n6 k (fun x v2 v3 h => kb 0 x fun x => G x v2 v3 h) v0 v2 v3 v4 h
theorem n5_eq (G : KT2 R) (σ : GS) (h : Heap) : KC k 32 c5 σ h (fun x σ h => G x (σ 2) (σ 3) h) = n5 k G (σ 0) (σ 2) (σ 3) (σ 4) h := (kblock_eq (a := c6) rfl).trans (n6_eq k (fun x v2 v3 h => kb 0 x fun x => G x v2 v3 h) σ h)
noncomputable def c13 : Code := cL c4
@[simp] def n4 (G : KT2 R) (v0 v2 v3 : GV) (h : Heap) : Option R := n5 k G v0 v2 v3 (.int .i64 0) h
theorem n4_eq (G : KT2 R) (σ : GS) (h : Heap) : KC k 32 c4 σ h (fun x σ h => G x (σ 2) (σ 3) h) = n4 k G (σ 0) (σ 2) (σ 3) h := (kseq (a := c13) (b := c5) rfl (fun σ h => n5_eq k G σ h)).trans (by kernel_rfl)
@[simp] def n2 (G : KT1 R) (v0 v2 v3 : GV) (h : Heap) : Option R := n4 k (fun x v2 v3 h => kx x (n3 k G v3 h) (G x v2 h)) v0 v2 v3 h
theorem n2_eq (G : KT1 R) (σ : GS) (h : Heap) : KC k 32 c2 σ h (fun x σ h => G x (σ 2) h) = n2 k G (σ 0) (σ 2) (σ 3) h := (kseq (b := c3) rfl (fun σ h => n3_eq k G σ h)).trans (n4_eq k (fun x v2 v3 h => kx x (n3 k G v3 h) (G x v2 h)) σ h)
noncomputable def c14 : Code := cL c1
@[simp] def n1 (G : KT1 R) (v0 v2 : GV) (h : Heap) : Option R := n2 k G v0 v2 .emp h
theorem n1_eq (G : KT1 R) (σ : GS) (h : Heap) : KC k 32 c1 σ h (fun x σ h => G x (σ 2) h) = n1 k G (σ 0) (σ 2) h := (kseq (a := c14) (b := c2) rfl (fun σ h => n2_eq k G σ h)).trans (by kernel_rfl)
noncomputable def c15 : Code := cL c0
@[simp] def n0 (G : KT1 R) (v0 : GV) (h : Heap) : Option R := n1 k G v0 (.str { data := #[] }) h
theorem n0_eq (G : KT1 R) (σ : GS) (h : Heap) : KC k 32 c0 σ h (fun x σ h => G x (σ 2) h) = n0 k G (σ 0) h := (kseq (a := c15) (b := c1) rfl (fun σ h => n1_eq k G σ h)).trans (by kernel_rfl)
def run {R : Type} (k : Nat) (a0 : GV) (h : Heap) (fin : GV → Heap → Option R) : Option R := n0 k (fun x v2 h => kend x (fin v2 h)) a0 h
theorem run_eq {R : Type} (k : Nat) (a0 : GV) (h : Heap) (fin : GV → Heap → Option R) : kfun PP cfg NN HH k fn.impl_unhex [a0] h fin = run k a0 h fin := (kfun_eq (nt := 32) (c := c0) (show PP.funcs[fn.impl_unhex]? = some Tryd.f86 by kernel_rfl) (by kernel_rfl) (by kernel_rfl) (fun x σ h => by cases x <;> kernel_rfl)).trans (n0_eq k (fun x v2 h => kend x (fin v2 h)) _ h)
theorem gives {k : Nat} {a0 : GV} {v : GV} (e : run k a0 [] finN = some v) : NN fn.impl_unhex [a0] = some v := nω_of (by kernel_rfl) ((run_eq k a0 [] finN).trans e)
end S.impl_unhex
/-! spec_l18Words -/
namespace S.spec_l18Words
noncomputable def c0 : Code := bodyOf Tryd.f82
noncomputable def c1 : Code := cR c0
noncomputable def c2 : Code := cR c1
noncomputable def c3 : Code := cR c2
noncomputable def c4 : Code := cR c3
@[simp] def n4 {R : Type} (k : Nat) (G : KT1 R) (v3 : GV) (h : Heap) : Option R := G .ret v3 h
theorem n4_eq (G : KT1 R) (σ : GS) (h : Heap) : KC k 33 c4 σ h (fun x σ h => G x (σ 2) h) = n4 k G (σ 3) h := by kernel_rfl
noncomputable def c5 : Code := cL c3
noncomputable def c6 : Code := cR c5
noncomputable def c7 : Code := cL c6
noncomputable def c8 : Code := cL c7
noncomputable def c9 : Code := cR c8
noncomputable def c10 : Code := cR c9
@[simp] def n10 {R : Type} (k : Nat) (G : KT5 R) (v0 v2 v3 v4 v5 : GV) (h : Heap) : Option R := (kbin .add v5 (.int .i64 1)).bind fun v12 => G .nrm v0 v2 v3 v4 v12 h
theorem n10_eq (G : KT5 R) (σ : GS) (h : Heap) : KC k 33 c10 σ h (fun x σ h => G x (σ 0) (σ 2) (σ 3) (σ 4) (σ 5) h) = n10 k G (σ 0) (σ 2) (σ 3) (σ 4) (σ 5) h := by kernel_rfl
noncomputable def c11 : Code := cL c9
noncomputable def c12 : Code := cL c11
noncomputable def c13 : Code := cR c12
@[simp] def n13 {R : Type} (k : Nat) (G : KT5 R) (v0 v2 v3 v4 v5 v22 : GV) (h : Heap) : Option R := kcond v22 ((kslS v0 (some v4) (some v5) none).bind fun v27 => (gfill (fun i => some (i * 1, 1)) (zeros [(.str { data := #[] })] 1) [(0, v27)]).bind fun c => kbs 1 1 c h fun v28 h => (kapp [(.str { data := #[] })] 1 16 v3 v28 h).bind fun r => kr r fun v29 h => (kbin .add v5 (.int .i64 1)).bind fun v31 => G .nrm v0 v2 v29 v31 v5 h) (G .nrm v0 v2 v3 v4 v5 h)
theorem n13_eq (G : KT5 R) (σ : GS) (h : Heap) : KC k 33 c13 σ h (fun x σ h => G x (σ 0) (σ 2) (σ 3) (σ 4) (σ 5) h) = n13 k G (σ 0) (σ 2) (σ 3) (σ 4) (σ 5) (σ 22) h := by kernel_rfl
noncomputable def c14 : Code := cL c12
noncomputable def o14 : Array Oper := cO c14
@[simp] def g14_2 {R : Type} (k : Nat) (G : KT6 R) (v0 v2 v3 v4 v5 v17 v21 : GV) (h : Heap) : Option R := (kpick v17 (.bool true) v21).bind fun v22 => G .nrm v0 v2 v3 v4 v5 v22 h
theorem g14_2_eq (G : KT6 R) (σ : GS) (h : Heap) : kgroups PP cfg NN HH 33 o14 [(none, [9])] σ h (fun σ h => G .nrm (σ 0) (σ 2) (σ 3) (σ 4) (σ 5) (σ 22) h) = g14_2 k G (σ 0) (σ 2) (σ 3) (σ 4) (σ 5) (σ 17) (σ 21) h := by kernel_rfl
@[simp] def g14_1 (G : KT6 R) (v0 v2 v3 v4 v5 v17 : GV) (h : Heap) : Option R := bif tr false v17 then (kbyte v0 v5).bind fun v20 => (kbin .eql v20 (.int .u8 32)).bind fun v21 => g14_2 k G v0 v2 v3 v4 v5 v17 v21 h else g14_2 k G v0 v2 v3 v4 v5 v17 .un h
theorem g14_1_eq (G : KT6 R) (σ : GS) (h : Heap) : kgroups PP cfg NN HH 33 o14 [(some (4, false), [5, 6, 7, 8]), (none, [9])] σ h (fun σ h => G .nrm (σ 0) (σ 2) (σ 3) (σ 4) (σ 5) (σ 22) h) = g14_1 k G (σ 0) (σ 2) (σ 3) (σ 4) (σ 5) (σ 17) h := (kgroups_cons (fun σ h => g14_2_eq k G σ h)).trans (by kernel_rfl)
@[simp] def g14_0 (G : KT6 R) (v0 v2 v3 v4 v5 : GV) (h : Heap) : Option R := (klenS v0).bind fun v15 => (kbin .eql v5 v15).bind fun v16 => g14_1 k G v0 v2 v3 v4 v5 v16 h
theorem g14_0_eq (G : KT6 R) (σ : GS) (h : Heap) : kgroups PP cfg NN HH 33 o14 [(none, [0, 1, 2, 3, 4]), (some (4, false), [5, 6, 7, 8]), (none, [9])] σ h (fun σ h => G .nrm (σ 0) (σ 2) (σ 3) (σ 4) (σ 5) (σ 22) h) = g14_0 k G (σ 0) (σ 2) (σ 3) (σ 4) (σ 5) h := (kgroups_cons (fun σ h => g14_1_eq k G σ h)).trans (by kernel_rfl)
@[simp] def n14 (G : KT6 R) (v0 v2 v3 v4 v5 : GV) (h : Heap) : Option R := g14_0 k G v0 v2 v3 v4 v5 h
theorem n14_eq (G : KT6 R) (σ : GS) (h : Heap) : KC k 33 c14 σ h (fun x σ h => G x (σ 0) (σ 2) (σ 3) (σ 4) (σ 5) (σ 22) h) = n14 k G (σ 0) (σ 2) (σ 3) (σ 4) (σ 5) h := (kregion_eq (id := 6) (draw := false) (ops := o14) (gs := [(none, [0, 1, 2, 3, 4]), (some (4, false), [5, 6, 7, 8]), (none, [9])]) (by kernel_rfl) (by kernel_rfl) (by kernel_rfl)).trans (g14_0_eq k G σ h)
@[simp] def n12 (G : KT5 R) (v0 v2 v3 v4 v5 : GV) (h : Heap) : Option R := n14 k (fun x v0 v2 v3 v4 v5 v22 h => kx x (n13 k G v0 v2 v3 v4 v5 v22 h) (G x v0 v2 v3 v4 v5 h)) v0 v2 v3 v4 v5 h
theorem n12_eq (G : KT5 R) (σ : GS) (h : Heap) : KC k 33 c12 σ h (fun x σ h => G x (σ 0) (σ 2) (σ 3) (σ 4) (σ 5) h) = n12 k G (σ 0) (σ 2) (σ 3) (σ 4) (σ 5) h := (kseq (b := c13) rfl (fun σ h => n13_eq k G σ h)).trans (n14_eq k (fun x v0 v2 v3 v4 v5 v22 h => kx x (n13 k G v0 v2 v3 v4 v5 v22 h) (G x v0 v2 v3 v4 v5 h)) σ h)
@[simp] def n11 (G : KT5 R) (v0 v2 v3 v4 v5 : GV) (h : Heap) : Option R := n12 k (fun x v0 v2 v3 v4 v5 h => kb 1 x fun x => G x v0 v2 v3 v4 v5 h) v0 v2 v3 v4 v5 h
theorem n11_eq (G : KT5 R) (σ : GS) (h : Heap) : KC k 33 c11 σ h (fun x σ h => G x (σ 0) (σ 2) (σ 3) (σ 4) (σ 5) h) = n11 k G (σ 0) (σ 2) (σ 3) (σ 4) (σ 5) h := (kblock_eq (a := c12) rfl).trans (n12_eq k (fun x v0 v2 v3 v4 v5 h => kb 1 x fun x => G x v0 v2 v3 v4 v5 h) σ h)
@[simp] def n9 (G : KT5 R) (v0 v2 v3 v4 v5 : GV) (h : Heap) : Option R := n11 k (fun x v0 v2 v3 v4 v5 h => kx x (n10 k G v0 v2 v3 v4 v5 h) (G x v0 v2 v3 v4 v5 h)) v0 v2 v3 v4 v5 h
theorem n9_eq (G : KT5 R) (σ : GS) (h : Heap) : KC k 33 c9 σ h (fun x σ h => G x (σ 0) (σ 2) (σ 3) (σ 4) (σ 5) h) = n9 k G (σ 0) (σ 2) (σ 3) (σ 4) (σ 5) h := (kseq (b := c10) rfl (fun σ h => n10_eq k G σ h)).trans (n11_eq k (fun x v0 v2 v3 v4 v5 h => kx x (n10 k G v0 v2 v3 v4 v5 h) (G x v0 v2 v3 v4 v5 h)) σ h)
noncomputable def c15 : Code := cL c8
@[simp] def n8 (G : KT5 R) (v0 v2 v3 v4 v5 : GV) (h : Heap) : Option R := (klenS v0).bind fun v9 => (kbin .leq v5 v9).bind fun v10 => kcond v10 (n9 k G v0 v2 v3 v4 v5 h) (G (.ext 0) v0 v2 v3 v4 v5 h)
theorem n8_eq (G : KT5 R) (σ : GS) (h : Heap) : KC k 33 c8 σ h (fun x σ h => G x (σ 0) (σ 2) (σ 3) (σ 4) (σ 5) h) = n8 k G (σ 0) (σ 2) (σ 3) (σ 4) (σ 5) h := (kseq (a := c15) (b := c9) rfl (fun σ h => n9_eq k G σ h)).trans (by kernel_rfl)
def l7 {R : Type} (k : Nat) (G : KT2 R) : Nat → GV → GV → GV → GV → GV → Heap → Option R
  | 0, _, _, _, _, _, _ => none
  | r + 1, v0, v2, v3, v4, v5, h => n8 k (fun x v0 v2 v3 v4 v5 h => kx x (l7 k G r v0 v2 v3 v4 v5 h) (G x v2 v3 h)) v0 v2 v3 v4 v5 h
theorem l7_eq {R : Type} (k : Nat) (G : KT2 R) : ∀ (r : Nat) (σ : GS) (h : Heap), kloop (fun σ h K => KC k 33 c8 σ h K) r σ h (fun x σ h => G x (σ 2) (σ 3) h) = l7 k G r (σ 0) (σ 2) (σ 3) (σ 4) (σ 5) h
  | 0, _, _ => rfl
  | r + 1, σ, h => (kloop_eq (fun σ h => l7_eq k G r σ h)).trans (n8_eq k (fun x v0 v2 v3 v4 v5 h => kx x (l7 k G r v0 v2 v3 v4 v5 h) (G x v2 v3 h)) σ h)
@[simp] def n7 (G : KT2 R) (v0 v2 v3 v4 v5 : GV) (h : Heap) : Option R := l7 k G k v0 v2 v3 v4 v5 h
theorem n7_eq (G : KT2 R) (σ : GS) (h : Heap) : KC k 33 c7 σ h (fun x σ h => G x (σ 2) (σ 3) h) = n7 k G (σ 0) (σ 2) (σ 3) (σ 4) (σ 5) h := (kloopc_eq (a := c8) rfl).trans (l7_eq k G k σ h)
@[simp] def n6 (G : KT2 R) (v0 v2 v3 v4 v5 : GV) (h : Heap) : Option R := n7 k (fun x v2 v3 h => kb 0 x fun x => G x v2 v3 h) v0 v2 v3 v4 v5 h
theorem n6_eq (G : KT2 R) (σ : GS) (h : Heap) : KC k 33 c6 σ h (fun x σ h => G x (σ 2) (σ 3) h) = n6 k G (σ 0) (σ 2) (σ 3) (σ 4) (σ 5) h := (kblock_eq (a := c7) rfl).trans (n7_eq k (fun x v2 v3 h => kb 0 x fun x => G x v2 v3 h) σ h)
noncomputable def c16 : Code := cL c5
@[simp] def n5 (G : KT2 R) (v0 v2 v3 v4 : GV) (h : Heap) : Option R := n6 k G v0 v2 v3 v4 (.int .i64 0) h
theorem n5_eq (G : KT2 R) (σ : GS) (h : Heap) : KC k 33 c5 σ h (fun x σ h => G x (σ 2) (σ 3) h) = n5 k G (σ 0) (σ 2) (σ 3) (σ 4) h := (kseq (a := c16) (b := c6) rfl (fun σ h => n6_eq k G σ h)).trans (by kernel_rfl)
@[simp] def n3 (G : KT1 R) (v0 v2 v3 v4 : GV) (h : Heap) : Option R := n5 k (fun x v2 v3 h => kx x (n4 k G v3 h) (G x v2 h)) v0 v2 v3 v4 h
theorem n3_eq (G : KT1 R) (σ : GS) (h : Heap) : KC k 33 c3 σ h (fun x σ h => G x (σ 2) h) = n3 k G (σ 0) (σ 2) (σ 3) (σ 4) h := (kseq (b := c4) rfl (fun σ h => n4_eq k G σ h)).trans (n5_eq k (fun x v2 v3 h => kx x (n4 k G v3 h) (G x v2 h)) σ h)
noncomputable def c17 : Code := cL c2
@[simp] def n2 (G : KT1 R) (v0 v2 v3 : GV) (h : Heap) : Option R := n3 k G v0 v2 v3 (.int .i64 0) h
theorem n2_eq (G : KT1 R) (σ : GS) (h : Heap) : KC k 33 c2 σ h (fun x σ h => G x (σ 2) h) = n2 k G (σ 0) (σ 2) (σ 3) h := (kseq (a := c17) (b := c3) rfl (fun σ h => n3_eq k G σ h)).trans (by kernel_rfl)
noncomputable def c18 : Code := cL c1
@[simp] def n1 (G : KT1 R) (v0 v2 : GV) (h : Heap) : Option R := n2 k G v0 v2 .emp h
theorem n1_eq (G : KT1 R) (σ : GS) (h : Heap) : KC k 33 c1 σ h (fun x σ h => G x (σ 2) h) = n1 k G (σ 0) (σ 2) h := (kseq (a := c18) (b := c2) rfl (fun σ h => n2_eq k G σ h)).trans (by kernel_rfl)
noncomputable def c19 : Code := cL c0
@[simp] def n0 (G : KT1 R) (v0 : GV) (h : Heap) : Option R := n1 k G v0 .nils h
theorem n0_eq (G : KT1 R) (σ : GS) (h : Heap) : KC k 33 c0 σ h (fun x σ h => G x (σ 2) h) = n0 k G (σ 0) h := (kseq (a := c19) (b := c1) rfl (fun σ h => n1_eq k G σ h)).trans (by kernel_rfl)
def run {R : Type} (k : Nat) (a0 : GV) (h : Heap) (fin : GV → Heap → Option R) : Option R := n0 k (fun x v2 h => kend x (fin v2 h)) a0 h
theorem run_eq {R : Type} (k : Nat) (a0 : GV) (h : Heap) (fin : GV → Heap → Option R) : kfun PP cfg NN HH k fn.spec_l18Words [a0] h fin = run k a0 h fin := (kfun_eq (nt := 33) (c := c0) (show PP.funcs[fn.spec_l18Words]? = some Tryd.f82 by kernel_rfl) (by kernel_rfl) (by kernel_rfl) (fun x σ h => by cases x <;> kernel_rfl)).trans (n0_eq k (fun x v2 h => kend x (fin v2 h)) _ h)
theorem gives {k : Nat} {a0 : GV} {v : GV} (e : run k a0 [] finN = some v) : NN fn.spec_l18Words [a0] = some v := nω_of (by kernel_rfl) ((run_eq k a0 [] finN).trans e)
end S.spec_l18Words
/-! spec_l18Digit -/
namespace S.spec_l18Digit
noncomputable def c0 : Code := bodyOf Tryd.f84
noncomputable def c1 : Code := cR c0
noncomputable def c2 : Code := cR c1
@[simp] def n2 {R : Type} (k : Nat) (G : KT1 R) (h : Heap) : Option R := G .ret (.int .i64 16) h
theorem n2_eq (G : KT1 R) (σ : GS) (h : Heap) : KC k 24 c2 σ h (fun x σ h => G x (σ 2) h) = n2 k G h := by kernel_rfl
noncomputable def c3 : Code := cL c1
noncomputable def c4 : Code := cL c3
noncomputable def c5 : Code := cR c4
noncomputable def c6 : Code := cL c5
@[simp] def n6 {R : Type} (k : Nat) (G : KT1 R) (v0 : GV) (h : Heap) : Option R := (kbin .sub v0 (.int .u8 48)).bind fun v11 => (kconvI .i64 v11).bind fun v12 => G .ret v12 h
theorem n6_eq (G : KT1 R) (σ : GS) (h : Heap) : KC k 24 c6 σ h (fun x σ h => G x (σ 2) h) = n6 k G (σ 0) h := by kernel_rfl
noncomputable def c7 : Code := cR c5
noncomputable def c8 : Code := cR c7
@[simp] def n8 {R : Type} (k : Nat) (G : KT1 R) (v0 v2 v13 : GV) (h : Heap) : Option R := kcond v13 ((kbin .sub v0 (.int .u8 97)).bind fun v21 => (kconvI .i64 v21).bind fun v22 => (kbin .add v22 (.int .i64 10)).bind fun v23 => G .ret v23 h) (G .nrm v2 h)
theorem n8_eq (G : KT1 R) (σ : GS) (h : Heap) : KC k 24 c8 σ h (fun x σ h => G x (σ 2) h) = n8 k G (σ 0) (σ 2) (σ 13) h := by kernel_rfl
noncomputable def c9 : Code := cL c7
noncomputable def o9 : Array Oper := cO c9
@[simp] def g9_2 {R : Type} (k : Nat) (G : KT3 R) (v0 v2 v16 v18 : GV) (h : Heap) : Option R := (kpick v16 v18 (.bool false)).bind fun v19 => G .nrm v0 v2 v19 h
theorem g9_2_eq (G : KT3 R) (σ : GS) (h : Heap) : kgroups PP cfg NN HH 24 o9 [(none, [5, 6])] σ h (fun σ h => G .nrm (σ 0) (σ 2) (σ 13) h) = g9_2 k G (σ 0) (σ 2) (σ 16) (σ 18) h := by kernel_rfl
@[simp] def g9_1 (G : KT3 R) (v0 v2 v16 : GV) (h : Heap) : Option R := bif tr true v16 then (kbin .leq v0 (.int .u8 102)).bind fun v18 => g9_2 k G v0 v2 v16 v18 h else g9_2 k G v0 v2 v16 .un h
theorem g9_1_eq (G : KT3 R) (σ : GS) (h : Heap) : kgroups PP cfg NN HH 24 o9 [(some (2, true), [3, 4]), (none, [5, 6])] σ h (fun σ h => G .nrm (σ 0) (σ 2) (σ 13) h) = g9_1 k G (σ 0) (σ 2) (σ 16) h := (kgroups_cons (fun σ h => g9_2_eq k G σ h)).trans (by kernel_rfl)
@[simp] def g9_0 (G : KT3 R) (v0 v2 : GV) (h : Heap) : Option R := (kbin .geq v0 (.int .u8 97)).bind fun v15 => g9_1 k G v0 v2 v15 h
theorem g9_0_eq (G : KT3 R) (σ : GS) (h : Heap) : kgroups PP cfg NN HH 24 o9 [(none, [0, 1, 2]), (some (2, true), [3, 4]), (none, [5, 6])] σ h (fun σ h => G .nrm (σ 0) (σ 2) (σ 13) h) = g9_0 k G (σ 0) (σ 2) h := (kgroups_cons (fun σ h => g9_1_eq k G σ h)).trans (by kernel_rfl)
@[simp] def n9 (G : KT3 R) (v0 v2 : GV) (h : Heap) : Option R := g9_0 k G v0 v2 h
theorem n9_eq (G : KT3 R) (σ : GS) (h : Heap) : KC k 24 c9 σ h (fun x σ h => G x (σ 0) (σ 2) (σ 13) h) = n9 k G (σ 0) (σ 2) h := (kregion_eq (id := 3) (draw := false) (ops := o9) (gs := [(none, [0, 1, 2]), (some (2, true), [3, 4]), (none, [5, 6])]) (by kernel_rfl) (by kernel_rfl) (by kernel_rfl)).trans (g9_0_eq k G σ h)
@[simp] def n7 (G : KT1 R) (v0 v2 : GV) (h : Heap) : Option R := n9 k (fun x v0 v2 v13 h => kx x (n8 k G v0 v2 v13 h) (G x v2 h)) v0 v2 h
theorem n7_eq (G : KT1 R) (σ : GS) (h : Heap) : KC k 24 c7 σ h (fun x σ h => G x (σ 2) h) = n7 k G (σ 0) (σ 2) h := (kseq (b := c8) rfl (fun σ h => n8_eq k G σ h)).trans (n9_eq k (fun x v0 v2 v13 h => kx x (n8 k G v0 v2 v13 h) (G x v2 h)) σ h)
@[simp] def n5 (G : KT1 R) (v0 v2 v3 : GV) (h : Heap) : Option R := kcond v3 (n6 k G v0 h) (n7 k G v0 v2 h)
theorem n5_eq (G : KT1 R) (σ : GS) (h : Heap) : KC k 24 c5 σ h (fun x σ h => G x (σ 2) h) = n5 k G (σ 0) (σ 2) (σ 3) h := (kcond_eq (a := c6) (b := c7) rfl (by rfl)).trans (congr (congrArg (kcond (σ 3)) (n6_eq k G σ h)) (n7_eq k G σ h))
noncomputable def c10 : Code := cL c4
noncomputable def o10 : Array Oper := cO c10
@[simp] def g10_2 {R : Type} (k : Nat) (G : KT3 R) (v0 v2 v6 v8 : GV) (h : Heap) : Option R := (kpick v6 v8 (.bool false)).bind fun v9 => G .nrm v0 v2 v9 h
theorem g10_2_eq (G : KT3 R) (σ : GS) (h : Heap) : kgroups PP cfg NN HH 24 o10 [(none, [5, 6])] σ h (fun σ h => G .nrm (σ 0) (σ 2) (σ 3) h) = g10_2 k G (σ 0) (σ 2) (σ 6) (σ 8) h := by kernel_rfl
@[simp] def g10_1 (G : KT3 R) (v0 v2 v6 : GV) (h : Heap) : Option R := bif tr true v6 then (kbin .leq v0 (.int .u8 57)).bind fun v8 => g10_2 k G v0 v2 v6 v8 h else g10_2 k G v0 v2 v6 .un h
theorem g10_1_eq (G : KT3 R) (σ : GS) (h : Heap) : kgroups PP cfg NN HH 24 o10 [(some (2, true), [3, 4]), (none, [5, 6])] σ h (fun σ h => G .nrm (σ 0) (σ 2) (σ 3) h) = g10_1 k G (σ 0) (σ 2) (σ 6) h := (kgroups_cons (fun σ h => g10_2_eq k G σ h)).trans (by kernel_rfl)
@[simp] def g10_0 (G : KT3 R) (v0 v2 : GV) (h : Heap) : Option R := (kbin .geq v0 (.int .u8 48)).bind fun v5 => g10_1 k G v0 v2 v5 h
theorem g10_0_eq (G : KT3 R) (σ : GS) (h : Heap) : kgroups PP cfg NN HH 24 o10 [(none, [0, 1, 2]), (some (2, true), [3, 4]), (none, [5, 6])] σ h (fun σ h => G .nrm (σ 0) (σ 2) (σ 3) h) = g10_0 k G (σ 0) (σ 2) h := (kgroups_cons (fun σ h => g10_1_eq k G σ h)).trans (by kernel_rfl)
@[simp] def n10 (G : KT3 R) (v0 v2 : GV) (h : Heap) : Option R := g10_0 k G v0 v2 h
theorem n10_eq (G : KT3 R) (σ : GS) (h : Heap) : KC k 24 c10 σ h (fun x σ h => G x (σ 0) (σ 2) (σ 3) h) = n10 k G (σ 0) (σ 2) h := (kregion_eq (id := 1) (draw := false) (ops := o10) (gs := [(none, [0, 1, 2]), (some (2, true), [3, 4]), (none, [5, 6])]) (by kernel_rfl) (by kernel_rfl) (by kernel_rfl)).trans (g10_0_eq k G σ h)
@[simp] def n4 (G : KT1 R) (v0 v2 : GV) (h : Heap) : Option R := n10 k (fun x v0 v2 v3 h => kx x (n5 k G v0 v2 v3 h) (G x v2 h)) v0 v2 h
theorem n4_eq (G : KT1 R) (σ : GS) (h : Heap) : KC k 24 c4 σ h (fun x σ h => G x (σ 2) h) = n4 k G (σ 0) (σ 2) h := (kseq (b := c5) rfl (fun σ h => n5_eq k G σ h)).trans (n10_eq k (fun x v0 v2 v3 h => kx x (n5 k G v0 v2 v3 h) (G x v2 h)) σ h)
@[simp] def n3 (G : KT1 R) (v0 v2 : GV) (h : Heap) : Option R := n4 k (fun x v2 h => kb 0 x fun x => G x v2 h) v0 v2 h
theorem n3_eq (G : KT1 R) (σ : GS) (h : Heap) : KC k 24 c3 σ h (fun x σ h => G x (σ 2) h) = n3 k G (σ 0) (σ 2) h := (kblock_eq (a := c4) rfl).trans (n4_eq k (fun x v2 h => kb 0 x fun x => G x v2 h) σ h)
@[simp] def n1 (G : KT1 R) (v0 v2 : GV) (h : Heap) : Option R := n3 k (fun x v2 h => kx x (n2 k G h) (G x v2 h)) v0 v2 h
theorem n1_eq (G : KT1 R) (σ : GS) (h : Heap) : KC k 24 c1 σ h (fun x σ h => G x (σ 2) h) = n1 k G (σ 0) (σ 2) h := (kseq (b := c2) rfl (fun σ h => n2_eq k G σ h)).trans (n3_eq k (fun x v2 h => kx x (n2 k G h) (G x v2 h)) σ h)
noncomputable def c11 : Code := cL c0
@[simp] def n0 (G : KT1 R) (v0 : GV) (h : Heap) : Option R := n1 k G v0 (.int .i64 0) h
theorem n0_eq (G : KT1 R) (σ : GS) (h : Heap) : KC k 24 c0 σ h (fun x σ h => G x (σ 2) h) = n0 k G (σ 0) h := (kseq (a := c11) (b := c1) rfl (fun σ h => n1_eq k G σ h)).trans (by kernel_rfl)
def run {R : Type} (k : Nat) (a0 : GV) (h : Heap) (fin : GV → Heap → Option R) : Option R := n0 k (fun x v2 h => kend x (fin v2 h)) a0 h
theorem run_eq {R : Type} (k : Nat) (a0 : GV) (h : Heap) (fin : GV → Heap → Option R) : kfun PP cfg NN HH k fn.spec_l18Digit [a0] h fin = run k a0 h fin := (kfun_eq (nt := 24) (c := c0) (show PP.funcs[fn.spec_l18Digit]? = some Tryd.f84 by kernel_rfl) (by kernel_rfl) (by kernel_rfl) (fun x σ h => by cases x <;> kernel_rfl)).trans (n0_eq k (fun x v2 h => kend x (fin v2 h)) _ h)
theorem gives {k : Nat} {a0 : GV} {v : GV} (e : run k a0 [] finN = some v) : NN fn.spec_l18Digit [a0] = some v := nω_of (by kernel_rfl) ((run_eq k a0 [] finN).trans e)
end S.spec_l18Digit
end
end Go.Proofs.YtklhdbkaejbajaaDoor.G
