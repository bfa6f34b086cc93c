/- What these functions do, told for open values, out of the machine with continuations. Printed by a program of this session. -/
import Derived.Test.YtklhdbkaejbajaaDoorSF0
import Derived.KernelRfl
namespace Go.Proofs.YtklhdbkaejbajaaDoor.G
open Go.RowKit
set_option linter.unusedVariables false
set_option maxRecDepth 100000
noncomputable section
variable {R : Type} (k : Nat)
/-! spec_ShowFrame -/
namespace S.spec_ShowFrame
noncomputable def c0 : Code := bodyOf Tryd.f58
noncomputable def c1 : Code := cR c0
noncomputable def c2 : Code := cR c1
noncomputable def c3 : Code := cR c2
@[simp] def n3 {R : Type} (k : Nat) (G : KT1 R) (v1 v3 : GV) (h : Heap) : Option R := (kfa 0 v1).bind fun v27 => (kload1 h v27).bind fun v28 => (kN NN fn.spec_l3Int [v28] h).bind fun v29 => (kbin .add v29 (.str { data := #[32] })).bind fun v30 => (kfa 1 v1).bind fun v31 => (kload1 h v31).bind fun v32 => (kN NN fn.spec_l3Int [v32] h).bind fun v33 => (kbin .add v30 v33).bind fun v34 => (kbin .add v34 (.str { data := #[32] })).bind fun v35 => (kfa 2 v1).bind fun v36 => (kload1 h v36).bind fun v37 => (kN NN fn.spec_l3Int [v37] h).bind fun v38 => (kbin .add v35 v38).bind fun v39 => (kbin .add v39 (.str { data := #[32] })).bind fun v40 => (kbin .add v40 v3).bind fun v42 => G .ret v42 h
theorem n3_eq (G : KT1 R) (σ : GS) (h : Heap) : KC k 43 c3 σ h (fun x σ h => G x (σ 2) h) = n3 k G (σ 1) (σ 3) h := by kernel_rfl
noncomputable def c4 : Code := cL c2
noncomputable def c5 : Code := cR c4
@[simp] def n5 {R : Type} (k : Nat) (G : KT3 R) (v1 v2 v3 v26 : GV) (h : Heap) : Option R := kcond v26 (G .ret v1 (.str { data := #[] }) v3 h) (G .nrm v1 v2 v3 h)
theorem n5_eq (G : KT3 R) (σ : GS) (h : Heap) : KC k 43 c5 σ h (fun x σ h => G x (σ 1) (σ 2) (σ 3) h) = n5 k G (σ 1) (σ 2) (σ 3) (σ 26) h := by kernel_rfl
noncomputable def c6 : Code := cL c4
noncomputable def o6 : Array Oper := cO c6
@[simp] def g6_6 {R : Type} (k : Nat) (G : KT4 R) (v1 v2 v3 v23 v25 : GV) (h : Heap) : Option R := (kpick v23 (.bool true) v25).bind fun v26 => G .nrm v1 v2 v3 v26 h
theorem g6_6_eq (G : KT4 R) (σ : GS) (h : Heap) : kgroups PP cfg NN HH 43 o6 [(none, [19])] σ h (fun σ h => G .nrm (σ 1) (σ 2) (σ 3) (σ 26) h) = g6_6 k G (σ 1) (σ 2) (σ 3) (σ 23) (σ 25) h := by kernel_rfl
@[simp] def g6_5 (G : KT4 R) (v1 v2 v3 v23 : GV) (h : Heap) : Option R := bif tr false v23 then (kbin .eql v3 (.str { data := #[] })).bind fun v25 => g6_6 k G v1 v2 v3 v23 v25 h else g6_6 k G v1 v2 v3 v23 .un h
theorem g6_5_eq (G : KT4 R) (σ : GS) (h : Heap) : kgroups PP cfg NN HH 43 o6 [(some (16, false), [17, 18]), (none, [19])] σ h (fun σ h => G .nrm (σ 1) (σ 2) (σ 3) (σ 26) h) = g6_5 k G (σ 1) (σ 2) (σ 3) (σ 23) h := (kgroups_cons (fun σ h => g6_6_eq k G σ h)).trans (by kernel_rfl)
@[simp] def g6_4 (G : KT4 R) (v1 v2 v3 v17 v21 : GV) (h : Heap) : Option R := (kpick v17 (.bool true) v21).bind fun v22 => g6_5 k G v1 v2 v3 v22 h
theorem g6_4_eq (G : KT4 R) (σ : GS) (h : Heap) : kgroups PP cfg NN HH 43 o6 [(none, [15, 16]), (some (16, false), [17, 18]), (none, [19])] σ h (fun σ h => G .nrm (σ 1) (σ 2) (σ 3) (σ 26) h) = g6_4 k G (σ 1) (σ 2) (σ 3) (σ 17) (σ 21) h := (kgroups_cons (fun σ h => g6_5_eq k G σ h)).trans (by kernel_rfl)
@[simp] def g6_3 (G : KT4 R) (v1 v2 v3 v17 : GV) (h : Heap) : Option R := bif tr false v17 then (kfa 2 v1).bind fun v18 => (kload1 h v18).bind fun v19 => (kN NN fn.spec_l1In [v19, (.int .i64 0), (.int .i64 10000)] h).bind fun v20 => (kun .not v20).bind fun v21 => g6_4 k G v1 v2 v3 v17 v21 h else g6_4 k G v1 v2 v3 v17 .un h
theorem g6_3_eq (G : KT4 R) (σ : GS) (h : Heap) : kgroups PP cfg NN HH 43 o6 [(some (10, false), [11, 12, 13, 14]), (none, [15, 16]), (some (16, false), [17, 18]), (none, [19])] σ h (fun σ h => G .nrm (σ 1) (σ 2) (σ 3) (σ 26) h) = g6_3 k G (σ 1) (σ 2) (σ 3) (σ 17) h := (kgroups_cons (fun σ h => g6_4_eq k G σ h)).trans (by kernel_rfl)
@[simp] def g6_2 (G : KT4 R) (v1 v2 v3 v11 v15 : GV) (h : Heap) : Option R := (kpick v11 (.bool true) v15).bind fun v16 => g6_3 k G v1 v2 v3 v16 h
theorem g6_2_eq (G : KT4 R) (σ : GS) (h : Heap) : kgroups PP cfg NN HH 43 o6 [(none, [9, 10]), (some (10, false), [11, 12, 13, 14]), (none, [15, 16]), (some (16, false), [17, 18]), (none, [19])] σ h (fun σ h => G .nrm (σ 1) (σ 2) (σ 3) (σ 26) h) = g6_2 k G (σ 1) (σ 2) (σ 3) (σ 11) (σ 15) h := (kgroups_cons (fun σ h => g6_3_eq k G σ h)).trans (by kernel_rfl)
@[simp] def g6_1 (G : KT4 R) (v1 v2 v3 v11 : GV) (h : Heap) : Option R := bif tr false v11 then (kfa 1 v1).bind fun v12 => (kload1 h v12).bind fun v13 => (kN NN fn.spec_l1In [v13, (.int .i64 0), (.int .i64 60)] h).bind fun v14 => (kun .not v14).bind fun v15 => g6_2 k G v1 v2 v3 v11 v15 h else g6_2 k G v1 v2 v3 v11 .un h
theorem g6_1_eq (G : KT4 R) (σ : GS) (h : Heap) : kgroups PP cfg NN HH 43 o6 [(some (4, false), [5, 6, 7, 8]), (none, [9, 10]), (some (10, false), [11, 12, 13, 14]), (none, [15, 16]), (some (16, false), [17, 18]), (none, [19])] σ h (fun σ h => G .nrm (σ 1) (σ 2) (σ 3) (σ 26) h) = g6_1 k G (σ 1) (σ 2) (σ 3) (σ 11) h := (kgroups_cons (fun σ h => g6_2_eq k G σ h)).trans (by kernel_rfl)
@[simp] def g6_0 (G : KT4 R) (v1 v2 v3 : GV) (h : Heap) : Option R := (kfa 0 v1).bind fun v7 => (kload1 h v7).bind fun v8 => (kN NN fn.spec_l1In [v8, (.int .i64 0), (.int .i64 60)] h).bind fun v9 => (kun .not v9).bind fun v10 => g6_1 k G v1 v2 v3 v10 h
theorem g6_0_eq (G : KT4 R) (σ : GS) (h : Heap) : kgroups PP cfg NN HH 43 o6 [(none, [0, 1, 2, 3, 4]), (some (4, false), [5, 6, 7, 8]), (none, [9, 10]), (some (10, false), [11, 12, 13, 14]), (none, [15, 16]), (some (16, false), [17, 18]), (none, [19])] σ h (fun σ h => G .nrm (σ 1) (σ 2) (σ 3) (σ 26) h) = g6_0 k G (σ 1) (σ 2) (σ 3) h := (kgroups_cons (fun σ h => g6_1_eq k G σ h)).trans (by kernel_rfl)
@[simp] def n6 (G : KT4 R) (v1 v2 v3 : GV) (h : Heap) : Option R := g6_0 k G v1 v2 v3 h
theorem n6_eq (G : KT4 R) (σ : GS) (h : Heap) : KC k 43 c6 σ h (fun x σ h => G x (σ 1) (σ 2) (σ 3) (σ 26) h) = n6 k G (σ 1) (σ 2) (σ 3) h := (kregion_eq (id := 2) (draw := false) (ops := o6) (gs := [(none, [0, 1, 2, 3, 4]), (some (4, false), [5, 6, 7, 8]), (none, [9, 10]), (some (10, false), [11, 12, 13, 14]), (none, [15, 16]), (some (16, false), [17, 18]), (none, [19])]) (by kernel_rfl) (by kernel_rfl) (by kernel_rfl)).trans (g6_0_eq k G σ h)
@[simp] def n4 (G : KT3 R) (v1 v2 v3 : GV) (h : Heap) : Option R := n6 k (fun x v1 v2 v3 v26 h => kx x (n5 k G v1 v2 v3 v26 h) (G x v1 v2 v3 h)) v1 v2 v3 h
theorem n4_eq (G : KT3 R) (σ : GS) (h : Heap) : KC k 43 c4 σ h (fun x σ h => G x (σ 1) (σ 2) (σ 3) h) = n4 k G (σ 1) (σ 2) (σ 3) h := (kseq (b := c5) rfl (fun σ h => n5_eq k G σ h)).trans (n6_eq k (fun x v1 v2 v3 v26 h => kx x (n5 k G v1 v2 v3 v26 h) (G x v1 v2 v3 h)) σ h)
@[simp] def n2 (G : KT1 R) (v1 v2 v3 : GV) (h : Heap) : Option R := n4 k (fun x v1 v2 v3 h => kx x (n3 k G v1 v3 h) (G x v2 h)) v1 v2 v3 h
theorem n2_eq (G : KT1 R) (σ : GS) (h : Heap) : KC k 43 c2 σ h (fun x σ h => G x (σ 2) h) = n2 k G (σ 1) (σ 2) (σ 3) h := (kseq (b := c3) rfl (fun σ h => n3_eq k G σ h)).trans (n4_eq k (fun x v1 v2 v3 h => kx x (n3 k G v1 v3 h) (G x v2 h)) σ h)
noncomputable def c7 : Code := cL c1
@[simp] def n1 (G : KT1 R) (v1 v2 : GV) (h : Heap) : Option R := (kfa 3 v1).bind fun v4 => (kloadA 3 h v4).bind fun v5 => (kN NN fn.spec_ShowPatch [v5] h).bind fun v6 => n2 k G v1 v2 v6 h
theorem n1_eq (G : KT1 R) (σ : GS) (h : Heap) : KC k 43 c1 σ h (fun x σ h => G x (σ 2) h) = n1 k G (σ 1) (σ 2) h := (kseq (a := c7) (b := c2) rfl (fun σ h => n2_eq k G σ h)).trans (by kernel_rfl)
noncomputable def c8 : Code := cL c0
@[simp] def n0 (G : KT1 R) (v0 : GV) (h : Heap) : Option R := kbox v0 h fun v1 h => n1 k G v1 (.str { data := #[] }) h
theorem n0_eq (G : KT1 R) (σ : GS) (h : Heap) : KC k 43 c0 σ h (fun x σ h => G x (σ 2) h) = n0 k G (σ 0) h := (kseq (a := c8) (b := c1) rfl (fun σ h => n1_eq k G σ h)).trans (by kernel_rfl)
def run {R : Type} (k : Nat) (a0 : GV) (h : Heap) (fin : GV → Heap → Option R) : Option R := n0 k (fun x v2 h => kend x (fin v2 h)) a0 h
theorem run_eq {R : Type} (k : Nat) (a0 : GV) (h : Heap) (fin : GV → Heap → Option R) : kfun PP cfg NN HH k fn.spec_ShowFrame [a0] h fin = run k a0 h fin := (kfun_eq (nt := 43) (c := c0) (show PP.funcs[fn.spec_ShowFrame]? = some Tryd.f58 by kernel_rfl) (by kernel_rfl) (by kernel_rfl) (fun x σ h => by cases x <;> kernel_rfl)).trans (n0_eq k (fun x v2 h => kend x (fin v2 h)) _ h)
theorem gives {k : Nat} {a0 : GV} {v : GV} (e : run k a0 [] finN = some v) : NN fn.spec_ShowFrame [a0] = some v := nω_of (by kernel_rfl) ((run_eq k a0 [] finN).trans e)
end S.spec_ShowFrame
/-! impl_ShowFrame -/
namespace S.impl_ShowFrame
noncomputable def c0 : Code := bodyOf Tryd.f60
noncomputable def c1 : Code := cR c0
noncomputable def c2 : Code := cR c1
noncomputable def c3 : Code := cR c2
@[simp] def n3 {R : Type} (k : Nat) (G : KT1 R) (v1 v3 : GV) (h : Heap) : Option R := (kfa 0 v1).bind fun v27 => (kload1 h v27).bind fun v28 => (kfa 1 v1).bind fun v29 => (kload1 h v29).bind fun v30 => (kfa 2 v1).bind fun v31 => (kload1 h v31).bind fun v32 => (gfill (fun i => some (i * 1, 1)) (zeros [(.int .i64 0)] 3) [(0, v28), (1, v30), (2, v32)]).bind fun c => kbs 3 1 c h fun v33 h => (kN NN fn.impl_spaced [v33] h).bind fun v34 => (kbin .add v34 (.str { data := #[32] })).bind fun v35 => (kbin .add v35 v3).bind fun v37 => G .ret v37 h
theorem n3_eq (G : KT1 R) (σ : GS) (h : Heap) : KC k 38 c3 σ h (fun x σ h => G x (σ 2) h) = n3 k G (σ 1) (σ 3) h := by kernel_rfl
noncomputable def c4 : Code := cL c2
noncomputable def c5 : Code := cR c4
@[simp] def n5 {R : Type} (k : Nat) (G : KT3 R) (v1 v2 v3 v26 : GV) (h : Heap) : Option R := kcond v26 (G .ret v1 (.str { data := #[] }) v3 h) (G .nrm v1 v2 v3 h)
theorem n5_eq (G : KT3 R) (σ : GS) (h : Heap) : KC k 38 c5 σ h (fun x σ h => G x (σ 1) (σ 2) (σ 3) h) = n5 k G (σ 1) (σ 2) (σ 3) (σ 26) h := by kernel_rfl
noncomputable def c6 : Code := cL c4
noncomputable def o6 : Array Oper := cO c6
@[simp] def g6_6 {R : Type} (k : Nat) (G : KT4 R) (v1 v2 v3 v23 v25 : GV) (h : Heap) : Option R := (kpick v23 (.bool true) v25).bind fun v26 => G .nrm v1 v2 v3 v26 h
theorem g6_6_eq (G : KT4 R) (σ : GS) (h : Heap) : kgroups PP cfg NN HH 38 o6 [(none, [19])] σ h (fun σ h => G .nrm (σ 1) (σ 2) (σ 3) (σ 26) h) = g6_6 k G (σ 1) (σ 2) (σ 3) (σ 23) (σ 25) h := by kernel_rfl
@[simp] def g6_5 (G : KT4 R) (v1 v2 v3 v23 : GV) (h : Heap) : Option R := bif tr false v23 then (kbin .eql v3 (.str { data := #[] })).bind fun v25 => g6_6 k G v1 v2 v3 v23 v25 h else g6_6 k G v1 v2 v3 v23 .un h
theorem g6_5_eq (G : KT4 R) (σ : GS) (h : Heap) : kgroups PP cfg NN HH 38 o6 [(some (16, false), [17, 18]), (none, [19])] σ h (fun σ h => G .nrm (σ 1) (σ 2) (σ 3) (σ 26) h) = g6_5 k G (σ 1) (σ 2) (σ 3) (σ 23) h := (kgroups_cons (fun σ h => g6_6_eq k G σ h)).trans (by kernel_rfl)
@[simp] def g6_4 (G : KT4 R) (v1 v2 v3 v17 v21 : GV) (h : Heap) : Option R := (kpick v17 (.bool true) v21).bind fun v22 => g6_5 k G v1 v2 v3 v22 h
theorem g6_4_eq (G : KT4 R) (σ : GS) (h : Heap) : kgroups PP cfg NN HH 38 o6 [(none, [15, 16]), (some (16, false), [17, 18]), (none, [19])] σ h (fun σ h => G .nrm (σ 1) (σ 2) (σ 3) (σ 26) h) = g6_4 k G (σ 1) (σ 2) (σ 3) (σ 17) (σ 21) h := (kgroups_cons (fun σ h => g6_5_eq k G σ h)).trans (by kernel_rfl)
@[simp] def g6_3 (G : KT4 R) (v1 v2 v3 v17 : GV) (h : Heap) : Option R := bif tr false v17 then (kfa 2 v1).bind fun v18 => (kload1 h v18).bind fun v19 => (kN NN fn.impl_in [v19, (.int .i64 0), (.int .i64 10000)] h).bind fun v20 => (kun .not v20).bind fun v21 => g6_4 k G v1 v2 v3 v17 v21 h else g6_4 k G v1 v2 v3 v17 .un h
theorem g6_3_eq (G : KT4 R) (σ : GS) (h : Heap) : kgroups PP cfg NN HH 38 o6 [(some (10, false), [11, 12, 13, 14]), (none, [15, 16]), (some (16, false), [17, 18]), (none, [19])] σ h (fun σ h => G .nrm (σ 1) (σ 2) (σ 3) (σ 26) h) = g6_3 k G (σ 1) (σ 2) (σ 3) (σ 17) h := (kgroups_cons (fun σ h => g6_4_eq k G σ h)).trans (by kernel_rfl)
@[simp] def g6_2 (G : KT4 R) (v1 v2 v3 v11 v15 : GV) (h : Heap) : Option R := (kpick v11 (.bool true) v15).bind fun v16 => g6_3 k G v1 v2 v3 v16 h
theorem g6_2_eq (G : KT4 R) (σ : GS) (h : Heap) : kgroups PP cfg NN HH 38 o6 [(none, [9, 10]), (some (10, false), [11, 12, 13, 14]), (none, [15, 16]), (some (16, false), [17, 18]), (none, [19])] σ h (fun σ h => G .nrm (σ 1) (σ 2) (σ 3) (σ 26) h) = g6_2 k G (σ 1) (σ 2) (σ 3) (σ 11) (σ 15) h := (kgroups_cons (fun σ h => g6_3_eq k G σ h)).trans (by kernel_rfl)
@[simp] def g6_1 (G : KT4 R) (v1 v2 v3 v11 : GV) (h : Heap) : Option R := bif tr false v11 then (kfa 1 v1).bind fun v12 => (kload1 h v12).bind fun v13 => (kN NN fn.impl_in [v13, (.int .i64 0), (.int .i64 60)] h).bind fun v14 => (kun .not v14).bind fun v15 => g6_2 k G v1 v2 v3 v11 v15 h else g6_2 k G v1 v2 v3 v11 .un h
theorem g6_1_eq (G : KT4 R) (σ : GS) (h : Heap) : kgroups PP cfg NN HH 38 o6 [(some (4, false), [5, 6, 7, 8]), (none, [9, 10]), (some (10, false), [11, 12, 13, 14]), (none, [15, 16]), (some (16, false), [17, 18]), (none, [19])] σ h (fun σ h => G .nrm (σ 1) (σ 2) (σ 3) (σ 26) h) = g6_1 k G (σ 1) (σ 2) (σ 3) (σ 11) h := (kgroups_cons (fun σ h => g6_2_eq k G σ h)).trans (by kernel_rfl)
@[simp] def g6_0 (G : KT4 R) (v1 v2 v3 : GV) (h : Heap) : Option R := (kfa 0 v1).bind fun v7 => (kload1 h v7).bind fun v8 => (kN NN fn.impl_in [v8, (.int .i64 0), (.int .i64 60)] h).bind fun v9 => (kun .not v9).bind fun v10 => g6_1 k G v1 v2 v3 v10 h
theorem g6_0_eq (G : KT4 R) (σ : GS) (h : Heap) : kgroups PP cfg NN HH 38 o6 [(none, [0, 1, 2, 3, 4]), (some (4, false), [5, 6, 7, 8]), (none, [9, 10]), (some (10, false), [11, 12, 13, 14]), (none, [15, 16]), (some (16, false), [17, 18]), (none, [19])] σ h (fun σ h => G .nrm (σ 1) (σ 2) (σ 3) (σ 26) h) = g6_0 k G (σ 1) (σ 2) (σ 3) h := (kgroups_cons (fun σ h => g6_1_eq k G σ h)).trans (by kernel_rfl)
@[simp] def n6 (G : KT4 R) (v1 v2 v3 : GV) (h : Heap) : Option R := g6_0 k G v1 v2 v3 h
theorem n6_eq (G : KT4 R) (σ : GS) (h : Heap) : KC k 38 c6 σ h (fun x σ h => G x (σ 1) (σ 2) (σ 3) (σ 26) h) = n6 k G (σ 1) (σ 2) (σ 3) h := (kregion_eq (id := 2) (draw := false) (ops := o6) (gs := [(none, [0, 1, 2, 3, 4]), (some (4, false), [5, 6, 7, 8]), (none, [9, 10]), (some (10, false), [11, 12, 13, 14]), (none, [15, 16]), (some (16, false), [17, 18]), (none, [19])]) (by kernel_rfl) (by kernel_rfl) (by kernel_rfl)).trans (g6_0_eq k G σ h)
@[simp] def n4 (G : KT3 R) (v1 v2 v3 : GV) (h : Heap) : Option R := n6 k (fun x v1 v2 v3 v26 h => kx x (n5 k G v1 v2 v3 v26 h) (G x v1 v2 v3 h)) v1 v2 v3 h
theorem n4_eq (G : KT3 R) (σ : GS) (h : Heap) : KC k 38 c4 σ h (fun x σ h => G x (σ 1) (σ 2) (σ 3) h) = n4 k G (σ 1) (σ 2) (σ 3) h := (kseq (b := c5) rfl (fun σ h => n5_eq k G σ h)).trans (n6_eq k (fun x v1 v2 v3 v26 h => kx x (n5 k G v1 v2 v3 v26 h) (G x v1 v2 v3 h)) σ h)
@[simp] def n2 (G : KT1 R) (v1 v2 v3 : GV) (h : Heap) : Option R := n4 k (fun x v1 v2 v3 h => kx x (n3 k G v1 v3 h) (G x v2 h)) v1 v2 v3 h
theorem n2_eq (G : KT1 R) (σ : GS) (h : Heap) : KC k 38 c2 σ h (fun x σ h => G x (σ 2) h) = n2 k G (σ 1) (σ 2) (σ 3) h := (kseq (b := c3) rfl (fun σ h => n3_eq k G σ h)).trans (n4_eq k (fun x v1 v2 v3 h => kx x (n3 k G v1 v3 h) (G x v2 h)) σ h)
noncomputable def c7 : Code := cL c1
@[simp] def n1 (G : KT1 R) (v1 v2 : GV) (h : Heap) : Option R := (kfa 3 v1).bind fun v4 => (kloadA 3 h v4).bind fun v5 => (kN NN fn.impl_ShowPatch [v5] h).bind fun v6 => n2 k G v1 v2 v6 h
theorem n1_eq (G : KT1 R) (σ : GS) (h : Heap) : KC k 38 c1 σ h (fun x σ h => G x (σ 2) h) = n1 k G (σ 1) (σ 2) h := (kseq (a := c7) (b := c2) rfl (fun σ h => n2_eq k G σ h)).trans (by kernel_rfl)
noncomputable def c8 : Code := cL c0
@[simp] def n0 (G : KT1 R) (v0 : GV) (h : Heap) : Option R := kbox v0 h fun v1 h => n1 k G v1 (.str { data := #[] }) h
theorem n0_eq (G : KT1 R) (σ : GS) (h : Heap) : KC k 38 c0 σ h (fun x σ h => G x (σ 2) h) = n0 k G (σ 0) h := (kseq (a := c8) (b := c1) rfl (fun σ h => n1_eq k G σ h)).trans (by kernel_rfl)
def run {R : Type} (k : Nat) (a0 : GV) (h : Heap) (fin : GV → Heap → Option R) : Option R := n0 k (fun x v2 h => kend x (fin v2 h)) a0 h
theorem run_eq {R : Type} (k : Nat) (a0 : GV) (h : Heap) (fin : GV → Heap → Option R) : kfun PP cfg NN HH k fn.impl_ShowFrame [a0] h fin = run k a0 h fin := (kfun_eq (nt := 38) (c := c0) (show PP.funcs[fn.impl_ShowFrame]? = some Tryd.f60 by kernel_rfl) (by kernel_rfl) (by kernel_rfl) (fun x σ h => by cases x <;> kernel_rfl)).trans (n0_eq k (fun x v2 h => kend x (fin v2 h)) _ h)
theorem gives {k : Nat} {a0 : GV} {v : GV} (e : run k a0 [] finN = some v) : NN fn.impl_ShowFrame [a0] = some v := nω_of (by kernel_rfl) ((run_eq k a0 [] finN).trans e)
end S.impl_ShowFrame
/-! spec_ShowPatch -/
namespace S.spec_ShowPatch
noncomputable def c0 : Code := bodyOf Tryd.f108
noncomputable def c1 : Code := cR c0
noncomputable def c2 : Code := cR c1
noncomputable def c3 : Code := cR c2
noncomputable def c4 : Code := cR c3
noncomputable def c5 : Code := cR c4
noncomputable def c6 : Code := cR c5
@[simp] def n6 {R : Type} (k : Nat) (G : KT1 R) (v6 : GV) (h : Heap) : Option R := (kbstr h v6).bind fun v75 => G .ret v75 h
theorem n6_eq (G : KT1 R) (σ : GS) (h : Heap) : KC k 76 c6 σ h (fun x σ h => G x (σ 2) h) = n6 k G (σ 6) h := by kernel_rfl
noncomputable def c7 : Code := cL c5
noncomputable def c8 : Code := cR c7
noncomputable def c9 : Code := cL c8
noncomputable def c10 : Code := cL c9
noncomputable def c11 : Code := cR c10
noncomputable def c12 : Code := cR c11
@[simp] def n12 {R : Type} (k : Nat) (G : KT4 R) (v2 v6 v7 v8 : GV) (h : Heap) : Option R := (kbin .add v8 (.int .i64 1)).bind fun v55 => G .nrm v2 v6 v7 v55 h
theorem n12_eq (G : KT4 R) (σ : GS) (h : Heap) : KC k 76 c12 σ h (fun x σ h => G x (σ 2) (σ 6) (σ 7) (σ 8) h) = n12 k G (σ 2) (σ 6) (σ 7) (σ 8) h := by kernel_rfl
noncomputable def c13 : Code := cL c11
noncomputable def c14 : Code := cL c13
noncomputable def c15 : Code := cR c14
noncomputable def c16 : Code := cR c15
@[simp] def n16 {R : Type} (k : Nat) (G : KT4 R) (v2 v6 v7 v8 : GV) (h : Heap) : Option R := (kia 1 v7 v8).bind fun v70 => (kload1 h v70).bind fun v71 => (kN NN fn.spec_l3Int [v71] h).bind fun v72 => (kapp [(.int .u8 0)] 1 1 v6 v72 h).bind fun r => kr r fun v73 h => G .nrm v2 v73 v7 v8 h
theorem n16_eq (G : KT4 R) (σ : GS) (h : Heap) : KC k 76 c16 σ h (fun x σ h => G x (σ 2) (σ 6) (σ 7) (σ 8) h) = n16 k G (σ 2) (σ 6) (σ 7) (σ 8) h := by kernel_rfl
noncomputable def c17 : Code := cL c15
@[simp] def n15 (G : KT4 R) (v2 v6 v7 v8 : GV) (h : Heap) : Option R := (kbin .gtr v8 (.int .i64 0)).bind fun v63 => kcond v63 ((gfill (fun i => some (i * 1, 1)) (zeros [(.int .u8 0)] 1) [(0, (.int .u8 32))]).bind fun c => kbs 1 1 c h fun v65 h => (kapp [(.int .u8 0)] 1 1 v6 v65 h).bind fun r => kr r fun v66 h => n16 k G v2 v66 v7 v8 h) (n16 k G v2 v6 v7 v8 h)
theorem n15_eq (G : KT4 R) (σ : GS) (h : Heap) : KC k 76 c15 σ h (fun x σ h => G x (σ 2) (σ 6) (σ 7) (σ 8) h) = n15 k G (σ 2) (σ 6) (σ 7) (σ 8) h := (kseq (a := c17) (b := c16) rfl (fun σ h => n16_eq k G σ h)).trans (by kernel_rfl)
noncomputable def c18 : Code := cL c14
@[simp] def n14 (G : KT4 R) (v2 v6 v7 v8 : GV) (h : Heap) : Option R := (kia 1 v7 v8).bind fun v58 => (kload1 h v58).bind fun v59 => (kN NN fn.spec_l1In [v59, (.int .i64 0), (.int .i64 9999999)] h).bind fun v60 => (kun .not v60).bind fun v61 => kcond v61 (G .ret (.str { data := #[] }) v6 v7 v8 h) (n15 k G v2 v6 v7 v8 h)
theorem n14_eq (G : KT4 R) (σ : GS) (h : Heap) : KC k 76 c14 σ h (fun x σ h => G x (σ 2) (σ 6) (σ 7) (σ 8) h) = n14 k G (σ 2) (σ 6) (σ 7) (σ 8) h := (kseq (a := c18) (b := c15) rfl (fun σ h => n15_eq k G σ h)).trans (by kernel_rfl)
@[simp] def n13 (G : KT4 R) (v2 v6 v7 v8 : GV) (h : Heap) : Option R := n14 k (fun x v2 v6 v7 v8 h => kb 5 x fun x => G x v2 v6 v7 v8 h) v2 v6 v7 v8 h
theorem n13_eq (G : KT4 R) (σ : GS) (h : Heap) : KC k 76 c13 σ h (fun x σ h => G x (σ 2) (σ 6) (σ 7) (σ 8) h) = n13 k G (σ 2) (σ 6) (σ 7) (σ 8) h := (kblock_eq (a := c14) rfl).trans (n14_eq k (fun x v2 v6 v7 v8 h => kb 5 x fun x => G x v2 v6 v7 v8 h) σ h)
@[simp] def n11 (G : KT4 R) (v2 v6 v7 v8 : GV) (h : Heap) : Option R := n13 k (fun x v2 v6 v7 v8 h => kx x (n12 k G v2 v6 v7 v8 h) (G x v2 v6 v7 v8 h)) v2 v6 v7 v8 h
theorem n11_eq (G : KT4 R) (σ : GS) (h : Heap) : KC k 76 c11 σ h (fun x σ h => G x (σ 2) (σ 6) (σ 7) (σ 8) h) = n11 k G (σ 2) (σ 6) (σ 7) (σ 8) h := (kseq (b := c12) rfl (fun σ h => n12_eq k G σ h)).trans (n13_eq k (fun x v2 v6 v7 v8 h => kx x (n12 k G v2 v6 v7 v8 h) (G x v2 v6 v7 v8 h)) σ h)
noncomputable def c19 : Code := cL c10
@[simp] def n10 (G : KT4 R) (v2 v6 v7 v8 : GV) (h : Heap) : Option R := (klen v7).bind fun v52 => (kbin .lss v8 v52).bind fun v53 => kcond v53 (n11 k G v2 v6 v7 v8 h) (G (.ext 4) v2 v6 v7 v8 h)
theorem n10_eq (G : KT4 R) (σ : GS) (h : Heap) : KC k 76 c10 σ h (fun x σ h => G x (σ 2) (σ 6) (σ 7) (σ 8) h) = n10 k G (σ 2) (σ 6) (σ 7) (σ 8) h := (kseq (a := c19) (b := c11) rfl (fun σ h => n11_eq k G σ h)).trans (by kernel_rfl)
def l9 {R : Type} (k : Nat) (G : KT2 R) : Nat → GV → GV → GV → GV → Heap → Option R
  | 0, _, _, _, _, _ => none
  | r + 1, v2, v6, v7, v8, h => n10 k (fun x v2 v6 v7 v8 h => kx x (l9 k G r v2 v6 v7 v8 h) (G x v2 v6 h)) v2 v6 v7 v8 h
theorem l9_eq {R : Type} (k : Nat) (G : KT2 R) : ∀ (r : Nat) (σ : GS) (h : Heap), kloop (fun σ h K => KC k 76 c10 σ h K) r σ h (fun x σ h => G x (σ 2) (σ 6) h) = l9 k G r (σ 2) (σ 6) (σ 7) (σ 8) h
  | 0, _, _ => rfl
  | r + 1, σ, h => (kloop_eq (fun σ h => l9_eq k G r σ h)).trans (n10_eq k (fun x v2 v6 v7 v8 h => kx x (l9 k G r v2 v6 v7 v8 h) (G x v2 v6 h)) σ h)
@[simp] def n9 (G : KT2 R) (v2 v6 v7 v8 : GV) (h : Heap) : Option R := l9 k G k v2 v6 v7 v8 h
theorem n9_eq (G : KT2 R) (σ : GS) (h : Heap) : KC k 76 c9 σ h (fun x σ h => G x (σ 2) (σ 6) h) = n9 k G (σ 2) (σ 6) (σ 7) (σ 8) h := (kloopc_eq (a := c10) rfl).trans (l9_eq k G k σ h)
@[simp] def n8 (G : KT2 R) (v2 v6 v7 v8 : GV) (h : Heap) : Option R := n9 k (fun x v2 v6 h => kb 4 x fun x => G x v2 v6 h) v2 v6 v7 v8 h
theorem n8_eq (G : KT2 R) (σ : GS) (h : Heap) : KC k 76 c8 σ h (fun x σ h => G x (σ 2) (σ 6) h) = n8 k G (σ 2) (σ 6) (σ 7) (σ 8) h := (kblock_eq (a := c9) rfl).trans (n9_eq k (fun x v2 v6 h => kb 4 x fun x => G x v2 v6 h) σ h)
noncomputable def c20 : Code := cL c7
@[simp] def n7 (G : KT2 R) (v2 v6 v7 : GV) (h : Heap) : Option R := n8 k G v2 v6 v7 (.int .i64 0) h
theorem n7_eq (G : KT2 R) (σ : GS) (h : Heap) : KC k 76 c7 σ h (fun x σ h => G x (σ 2) (σ 6) h) = n7 k G (σ 2) (σ 6) (σ 7) h := (kseq (a := c20) (b := c8) rfl (fun σ h => n8_eq k G σ h)).trans (by kernel_rfl)
@[simp] def n5 (G : KT1 R) (v2 v6 v7 : GV) (h : Heap) : Option R := n7 k (fun x v2 v6 h => kx x (n6 k G v6 h) (G x v2 h)) v2 v6 v7 h
theorem n5_eq (G : KT1 R) (σ : GS) (h : Heap) : KC k 76 c5 σ h (fun x σ h => G x (σ 2) h) = n5 k G (σ 2) (σ 6) (σ 7) h := (kseq (b := c6) rfl (fun σ h => n6_eq k G σ h)).trans (n7_eq k (fun x v2 v6 h => kx x (n6 k G v6 h) (G x v2 h)) σ h)
noncomputable def c21 : Code := cL c4
@[simp] def n4 (G : KT1 R) (v1 v2 v6 : GV) (h : Heap) : Option R := (kloadA 3 h v1).bind fun v48 => (kN NN fn.spec_l10Numbers [v48] h).bind fun v49 => n5 k G v2 v6 v49 h
theorem n4_eq (G : KT1 R) (σ : GS) (h : Heap) : KC k 76 c4 σ h (fun x σ h => G x (σ 2) h) = n4 k G (σ 1) (σ 2) (σ 6) h := (kseq (a := c21) (b := c5) rfl (fun σ h => n5_eq k G σ h)).trans (by kernel_rfl)
noncomputable def c22 : Code := cL c3
@[simp] def n3 (G : KT1 R) (v1 v2 : GV) (h : Heap) : Option R := n4 k G v1 v2 .emp h
theorem n3_eq (G : KT1 R) (σ : GS) (h : Heap) : KC k 76 c3 σ h (fun x σ h => G x (σ 2) h) = n3 k G (σ 1) (σ 2) h := (kseq (a := c22) (b := c4) rfl (fun σ h => n4_eq k G σ h)).trans (by kernel_rfl)
noncomputable def c23 : Code := cL c2
noncomputable def c24 : Code := cR c23
noncomputable def c25 : Code := cL c24
noncomputable def c26 : Code := cL c25
noncomputable def c27 : Code := cR c26
noncomputable def c28 : Code := cR c27
@[simp] def n28 {R : Type} (k : Nat) (G : KT3 R) (v1 v2 v3 : GV) (h : Heap) : Option R := (kbin .add v3 (.int .i64 1)).bind fun v19 => G .nrm v1 v2 v19 h
theorem n28_eq (G : KT3 R) (σ : GS) (h : Heap) : KC k 76 c28 σ h (fun x σ h => G x (σ 1) (σ 2) (σ 3) h) = n28 k G (σ 1) (σ 2) (σ 3) h := by kernel_rfl
noncomputable def c29 : Code := cL c27
noncomputable def c30 : Code := cL c29
noncomputable def c31 : Code := cR c30
noncomputable def c32 : Code := cR c31
noncomputable def c33 : Code := cR c32
noncomputable def c34 : Code := cL c33
noncomputable def c35 : Code := cL c34
noncomputable def c36 : Code := cR c35
noncomputable def c37 : Code := cR c36
@[simp] def n37 {R : Type} (k : Nat) (G : KT5 R) (v1 v2 v3 v4 v5 : GV) (h : Heap) : Option R := (kbin .add v5 (.int .i64 1)).bind fun v39 => G .nrm v1 v2 v3 v4 v39 h
theorem n37_eq (G : KT5 R) (σ : GS) (h : Heap) : KC k 76 c37 σ h (fun x σ h => G x (σ 1) (σ 2) (σ 3) (σ 4) (σ 5) h) = n37 k G (σ 1) (σ 2) (σ 3) (σ 4) (σ 5) h := by kernel_rfl
noncomputable def c38 : Code := cL c36
noncomputable def c39 : Code := cL c38
@[simp] def n39 {R : Type} (k : Nat) (G : KT5 R) (v1 v2 v3 v4 v5 : GV) (h : Heap) : Option R := (kia 7 v4 v5).bind fun v42 => (kfa 1 v42).bind fun v43 => (kloadA 5 h v43).bind fun v44 => (kN NN fn.spec_StyleOk [v44] h).bind fun v45 => (kun .not v45).bind fun v46 => kcond v46 (G .ret v1 (.str { data := #[] }) v3 v4 v5 h) (G .nrm v1 v2 v3 v4 v5 h)
theorem n39_eq (G : KT5 R) (σ : GS) (h : Heap) : KC k 76 c39 σ h (fun x σ h => G x (σ 1) (σ 2) (σ 3) (σ 4) (σ 5) h) = n39 k G (σ 1) (σ 2) (σ 3) (σ 4) (σ 5) h := by kernel_rfl
@[simp] def n38 (G : KT5 R) (v1 v2 v3 v4 v5 : GV) (h : Heap) : Option R := n39 k (fun x v1 v2 v3 v4 v5 h => kb 3 x fun x => G x v1 v2 v3 v4 v5 h) v1 v2 v3 v4 v5 h
theorem n38_eq (G : KT5 R) (σ : GS) (h : Heap) : KC k 76 c38 σ h (fun x σ h => G x (σ 1) (σ 2) (σ 3) (σ 4) (σ 5) h) = n38 k G (σ 1) (σ 2) (σ 3) (σ 4) (σ 5) h := (kblock_eq (a := c39) rfl).trans (n39_eq k (fun x v1 v2 v3 v4 v5 h => kb 3 x fun x => G x v1 v2 v3 v4 v5 h) σ h)
@[simp] def n36 (G : KT5 R) (v1 v2 v3 v4 v5 : GV) (h : Heap) : Option R := n38 k (fun x v1 v2 v3 v4 v5 h => kx x (n37 k G v1 v2 v3 v4 v5 h) (G x v1 v2 v3 v4 v5 h)) v1 v2 v3 v4 v5 h
theorem n36_eq (G : KT5 R) (σ : GS) (h : Heap) : KC k 76 c36 σ h (fun x σ h => G x (σ 1) (σ 2) (σ 3) (σ 4) (σ 5) h) = n36 k G (σ 1) (σ 2) (σ 3) (σ 4) (σ 5) h := (kseq (b := c37) rfl (fun σ h => n37_eq k G σ h)).trans (n38_eq k (fun x v1 v2 v3 v4 v5 h => kx x (n37 k G v1 v2 v3 v4 v5 h) (G x v1 v2 v3 v4 v5 h)) σ h)
noncomputable def c40 : Code := cL c35
@[simp] def n35 (G : KT5 R) (v1 v2 v3 v4 v5 : GV) (h : Heap) : Option R := (klen v4).bind fun v36 => (kbin .lss v5 v36).bind fun v37 => kcond v37 (n36 k G v1 v2 v3 v4 v5 h) (G (.ext 2) v1 v2 v3 v4 v5 h)
theorem n35_eq (G : KT5 R) (σ : GS) (h : Heap) : KC k 76 c35 σ h (fun x σ h => G x (σ 1) (σ 2) (σ 3) (σ 4) (σ 5) h) = n35 k G (σ 1) (σ 2) (σ 3) (σ 4) (σ 5) h := (kseq (a := c40) (b := c36) rfl (fun σ h => n36_eq k G σ h)).trans (by kernel_rfl)
def l34 {R : Type} (k : Nat) (G : KT3 R) : Nat → GV → GV → GV → GV → GV → Heap → Option R
  | 0, _, _, _, _, _, _ => none
  | r + 1, v1, v2, v3, v4, v5, h => n35 k (fun x v1 v2 v3 v4 v5 h => kx x (l34 k G r v1 v2 v3 v4 v5 h) (G x v1 v2 v3 h)) v1 v2 v3 v4 v5 h
theorem l34_eq {R : Type} (k : Nat) (G : KT3 R) : ∀ (r : Nat) (σ : GS) (h : Heap), kloop (fun σ h K => KC k 76 c35 σ h K) r σ h (fun x σ h => G x (σ 1) (σ 2) (σ 3) h) = l34 k G r (σ 1) (σ 2) (σ 3) (σ 4) (σ 5) h
  | 0, _, _ => rfl
  | r + 1, σ, h => (kloop_eq (fun σ h => l34_eq k G r σ h)).trans (n35_eq k (fun x v1 v2 v3 v4 v5 h => kx x (l34 k G r v1 v2 v3 v4 v5 h) (G x v1 v2 v3 h)) σ h)
@[simp] def n34 (G : KT3 R) (v1 v2 v3 v4 v5 : GV) (h : Heap) : Option R := l34 k G k v1 v2 v3 v4 v5 h
theorem n34_eq (G : KT3 R) (σ : GS) (h : Heap) : KC k 76 c34 σ h (fun x σ h => G x (σ 1) (σ 2) (σ 3) h) = n34 k G (σ 1) (σ 2) (σ 3) (σ 4) (σ 5) h := (kloopc_eq (a := c35) rfl).trans (l34_eq k G k σ h)
@[simp] def n33 (G : KT3 R) (v1 v2 v3 v4 v5 : GV) (h : Heap) : Option R := n34 k (fun x v1 v2 v3 h => kb 2 x fun x => G x v1 v2 v3 h) v1 v2 v3 v4 v5 h
theorem n33_eq (G : KT3 R) (σ : GS) (h : Heap) : KC k 76 c33 σ h (fun x σ h => G x (σ 1) (σ 2) (σ 3) h) = n33 k G (σ 1) (σ 2) (σ 3) (σ 4) (σ 5) h := (kblock_eq (a := c34) rfl).trans (n34_eq k (fun x v1 v2 v3 h => kb 2 x fun x => G x v1 v2 v3 h) σ h)
noncomputable def c41 : Code := cL c32
@[simp] def n32 (G : KT3 R) (v1 v2 v3 v4 : GV) (h : Heap) : Option R := n33 k G v1 v2 v3 v4 (.int .i64 0) h
theorem n32_eq (G : KT3 R) (σ : GS) (h : Heap) : KC k 76 c32 σ h (fun x σ h => G x (σ 1) (σ 2) (σ 3) h) = n32 k G (σ 1) (σ 2) (σ 3) (σ 4) h := (kseq (a := c41) (b := c33) rfl (fun σ h => n33_eq k G σ h)).trans (by kernel_rfl)
noncomputable def c42 : Code := cL c31
noncomputable def c43 : Code := cR c42
@[simp] def n43 {R : Type} (k : Nat) (G : KT4 R) (v1 v2 v3 v4 v33 : GV) (h : Heap) : Option R := kcond v33 (G .ret v1 (.str { data := #[] }) v3 v4 h) (G .nrm v1 v2 v3 v4 h)
theorem n43_eq (G : KT4 R) (σ : GS) (h : Heap) : KC k 76 c43 σ h (fun x σ h => G x (σ 1) (σ 2) (σ 3) (σ 4) h) = n43 k G (σ 1) (σ 2) (σ 3) (σ 4) (σ 33) h := by kernel_rfl
noncomputable def c44 : Code := cL c42
noncomputable def o44 : Array Oper := cO c44
@[simp] def g44_2 {R : Type} (k : Nat) (G : KT5 R) (v1 v2 v3 v4 v29 v32 : GV) (h : Heap) : Option R := (kpick v29 (.bool true) v32).bind fun v33 => G .nrm v1 v2 v3 v4 v33 h
theorem g44_2_eq (G : KT5 R) (σ : GS) (h : Heap) : kgroups PP cfg NN HH 76 o44 [(none, [7])] σ h (fun σ h => G .nrm (σ 1) (σ 2) (σ 3) (σ 4) (σ 33) h) = g44_2 k G (σ 1) (σ 2) (σ 3) (σ 4) (σ 29) (σ 32) h := by kernel_rfl
@[simp] def g44_1 (G : KT5 R) (v1 v2 v3 v4 v29 : GV) (h : Heap) : Option R := bif tr false v29 then (klen v4).bind fun v31 => (kbin .gtr v31 (.int .i64 60)).bind fun v32 => g44_2 k G v1 v2 v3 v4 v29 v32 h else g44_2 k G v1 v2 v3 v4 v29 .un h
theorem g44_1_eq (G : KT5 R) (σ : GS) (h : Heap) : kgroups PP cfg NN HH 76 o44 [(some (3, false), [4, 5, 6]), (none, [7])] σ h (fun σ h => G .nrm (σ 1) (σ 2) (σ 3) (σ 4) (σ 33) h) = g44_1 k G (σ 1) (σ 2) (σ 3) (σ 4) (σ 29) h := (kgroups_cons (fun σ h => g44_2_eq k G σ h)).trans (by kernel_rfl)
@[simp] def g44_0 (G : KT5 R) (v1 v2 v3 v4 : GV) (h : Heap) : Option R := (klen v4).bind fun v27 => (kbin .lss v27 (.int .i64 1)).bind fun v28 => g44_1 k G v1 v2 v3 v4 v28 h
theorem g44_0_eq (G : KT5 R) (σ : GS) (h : Heap) : kgroups PP cfg NN HH 76 o44 [(none, [0, 1, 2, 3]), (some (3, false), [4, 5, 6]), (none, [7])] σ h (fun σ h => G .nrm (σ 1) (σ 2) (σ 3) (σ 4) (σ 33) h) = g44_0 k G (σ 1) (σ 2) (σ 3) (σ 4) h := (kgroups_cons (fun σ h => g44_1_eq k G σ h)).trans (by kernel_rfl)
@[simp] def n44 (G : KT5 R) (v1 v2 v3 v4 : GV) (h : Heap) : Option R := g44_0 k G v1 v2 v3 v4 h
theorem n44_eq (G : KT5 R) (σ : GS) (h : Heap) : KC k 76 c44 σ h (fun x σ h => G x (σ 1) (σ 2) (σ 3) (σ 4) (σ 33) h) = n44 k G (σ 1) (σ 2) (σ 3) (σ 4) h := (kregion_eq (id := 7) (draw := false) (ops := o44) (gs := [(none, [0, 1, 2, 3]), (some (3, false), [4, 5, 6]), (none, [7])]) (by kernel_rfl) (by kernel_rfl) (by kernel_rfl)).trans (g44_0_eq k G σ h)
@[simp] def n42 (G : KT4 R) (v1 v2 v3 v4 : GV) (h : Heap) : Option R := n44 k (fun x v1 v2 v3 v4 v33 h => kx x (n43 k G v1 v2 v3 v4 v33 h) (G x v1 v2 v3 v4 h)) v1 v2 v3 v4 h
theorem n42_eq (G : KT4 R) (σ : GS) (h : Heap) : KC k 76 c42 σ h (fun x σ h => G x (σ 1) (σ 2) (σ 3) (σ 4) h) = n42 k G (σ 1) (σ 2) (σ 3) (σ 4) h := (kseq (b := c43) rfl (fun σ h => n43_eq k G σ h)).trans (n44_eq k (fun x v1 v2 v3 v4 v33 h => kx x (n43 k G v1 v2 v3 v4 v33 h) (G x v1 v2 v3 v4 h)) σ h)
@[simp] def n31 (G : KT3 R) (v1 v2 v3 v4 : GV) (h : Heap) : Option R := n42 k (fun x v1 v2 v3 v4 h => kx x (n32 k G v1 v2 v3 v4 h) (G x v1 v2 v3 h)) v1 v2 v3 v4 h
theorem n31_eq (G : KT3 R) (σ : GS) (h : Heap) : KC k 76 c31 σ h (fun x σ h => G x (σ 1) (σ 2) (σ 3) h) = n31 k G (σ 1) (σ 2) (σ 3) (σ 4) h := (kseq (b := c32) rfl (fun σ h => n32_eq k G σ h)).trans (n42_eq k (fun x v1 v2 v3 v4 h => kx x (n32 k G v1 v2 v3 v4 h) (G x v1 v2 v3 h)) σ h)
noncomputable def c45 : Code := cL c30
@[simp] def n30 (G : KT3 R) (v1 v2 v3 : GV) (h : Heap) : Option R := (kfa 2 v1).bind fun v20 => (kload1 h v20).bind fun v21 => (kia 3 v21 v3).bind fun v23 => (kfa 2 v23).bind fun v24 => (kload1 h v24).bind fun v25 => n31 k G v1 v2 v3 v25 h
theorem n30_eq (G : KT3 R) (σ : GS) (h : Heap) : KC k 76 c30 σ h (fun x σ h => G x (σ 1) (σ 2) (σ 3) h) = n30 k G (σ 1) (σ 2) (σ 3) h := (kseq (a := c45) (b := c31) rfl (fun σ h => n31_eq k G σ h)).trans (by kernel_rfl)
@[simp] def n29 (G : KT3 R) (v1 v2 v3 : GV) (h : Heap) : Option R := n30 k (fun x v1 v2 v3 h => kb 1 x fun x => G x v1 v2 v3 h) v1 v2 v3 h
theorem n29_eq (G : KT3 R) (σ : GS) (h : Heap) : KC k 76 c29 σ h (fun x σ h => G x (σ 1) (σ 2) (σ 3) h) = n29 k G (σ 1) (σ 2) (σ 3) h := (kblock_eq (a := c30) rfl).trans (n30_eq k (fun x v1 v2 v3 h => kb 1 x fun x => G x v1 v2 v3 h) σ h)
@[simp] def n27 (G : KT3 R) (v1 v2 v3 : GV) (h : Heap) : Option R := n29 k (fun x v1 v2 v3 h => kx x (n28 k G v1 v2 v3 h) (G x v1 v2 v3 h)) v1 v2 v3 h
theorem n27_eq (G : KT3 R) (σ : GS) (h : Heap) : KC k 76 c27 σ h (fun x σ h => G x (σ 1) (σ 2) (σ 3) h) = n27 k G (σ 1) (σ 2) (σ 3) h := (kseq (b := c28) rfl (fun σ h => n28_eq k G σ h)).trans (n29_eq k (fun x v1 v2 v3 h => kx x (n28 k G v1 v2 v3 h) (G x v1 v2 v3 h)) σ h)
noncomputable def c46 : Code := cL c26
@[simp] def n26 (G : KT3 R) (v1 v2 v3 : GV) (h : Heap) : Option R := (kfa 2 v1).bind fun v14 => (kload1 h v14).bind fun v15 => (klen v15).bind fun v16 => (kbin .lss v3 v16).bind fun v17 => kcond v17 (n27 k G v1 v2 v3 h) (G (.ext 0) v1 v2 v3 h)
theorem n26_eq (G : KT3 R) (σ : GS) (h : Heap) : KC k 76 c26 σ h (fun x σ h => G x (σ 1) (σ 2) (σ 3) h) = n26 k G (σ 1) (σ 2) (σ 3) h := (kseq (a := c46) (b := c27) rfl (fun σ h => n27_eq k G σ h)).trans (by kernel_rfl)
def l25 {R : Type} (k : Nat) (G : KT2 R) : Nat → GV → GV → GV → Heap → Option R
  | 0, _, _, _, _ => none
  | r + 1, v1, v2, v3, h => n26 k (fun x v1 v2 v3 h => kx x (l25 k G r v1 v2 v3 h) (G x v1 v2 h)) v1 v2 v3 h
theorem l25_eq {R : Type} (k : Nat) (G : KT2 R) : ∀ (r : Nat) (σ : GS) (h : Heap), kloop (fun σ h K => KC k 76 c26 σ h K) r σ h (fun x σ h => G x (σ 1) (σ 2) h) = l25 k G r (σ 1) (σ 2) (σ 3) h
  | 0, _, _ => rfl
  | r + 1, σ, h => (kloop_eq (fun σ h => l25_eq k G r σ h)).trans (n26_eq k (fun x v1 v2 v3 h => kx x (l25 k G r v1 v2 v3 h) (G x v1 v2 h)) σ h)
@[simp] def n25 (G : KT2 R) (v1 v2 v3 : GV) (h : Heap) : Option R := l25 k G k v1 v2 v3 h
theorem n25_eq (G : KT2 R) (σ : GS) (h : Heap) : KC k 76 c25 σ h (fun x σ h => G x (σ 1) (σ 2) h) = n25 k G (σ 1) (σ 2) (σ 3) h := (kloopc_eq (a := c26) rfl).trans (l25_eq k G k σ h)
@[simp] def n24 (G : KT2 R) (v1 v2 v3 : GV) (h : Heap) : Option R := n25 k (fun x v1 v2 h => kb 0 x fun x => G x v1 v2 h) v1 v2 v3 h
theorem n24_eq (G : KT2 R) (σ : GS) (h : Heap) : KC k 76 c24 σ h (fun x σ h => G x (σ 1) (σ 2) h) = n24 k G (σ 1) (σ 2) (σ 3) h := (kblock_eq (a := c25) rfl).trans (n25_eq k (fun x v1 v2 h => kb 0 x fun x => G x v1 v2 h) σ h)
noncomputable def c47 : Code := cL c23
@[simp] def n23 (G : KT2 R) (v1 v2 : GV) (h : Heap) : Option R := n24 k G v1 v2 (.int .i64 0) h
theorem n23_eq (G : KT2 R) (σ : GS) (h : Heap) : KC k 76 c23 σ h (fun x σ h => G x (σ 1) (σ 2) h) = n23 k G (σ 1) (σ 2) h := (kseq (a := c47) (b := c24) rfl (fun σ h => n24_eq k G σ h)).trans (by kernel_rfl)
@[simp] def n2 (G : KT1 R) (v1 v2 : GV) (h : Heap) : Option R := n23 k (fun x v1 v2 h => kx x (n3 k G v1 v2 h) (G x v2 h)) v1 v2 h
theorem n2_eq (G : KT1 R) (σ : GS) (h : Heap) : KC k 76 c2 σ h (fun x σ h => G x (σ 2) h) = n2 k G (σ 1) (σ 2) h := (kseq (b := c3) rfl (fun σ h => n3_eq k G σ h)).trans (n23_eq k (fun x v1 v2 h => kx x (n3 k G v1 v2 h) (G x v2 h)) σ h)
noncomputable def c48 : Code := cL c1
@[simp] def n1 (G : KT1 R) (v1 v2 : GV) (h : Heap) : Option R := (kfa 2 v1).bind fun v9 => (kload1 h v9).bind fun v10 => (klen v10).bind fun v11 => (kbin .gtr v11 (.int .i64 400)).bind fun v12 => kcond v12 (G .ret (.str { data := #[] }) h) (n2 k G v1 v2 h)
theorem n1_eq (G : KT1 R) (σ : GS) (h : Heap) : KC k 76 c1 σ h (fun x σ h => G x (σ 2) h) = n1 k G (σ 1) (σ 2) h := (kseq (a := c48) (b := c2) rfl (fun σ h => n2_eq k G σ h)).trans (by kernel_rfl)
noncomputable def c49 : Code := cL c0
@[simp] def n0 (G : KT1 R) (v0 : GV) (h : Heap) : Option R := kbox v0 h fun v1 h => n1 k G v1 (.str { data := #[] }) h
theorem n0_eq (G : KT1 R) (σ : GS) (h : Heap) : KC k 76 c0 σ h (fun x σ h => G x (σ 2) h) = n0 k G (σ 0) h := (kseq (a := c49) (b := c1) rfl (fun σ h => n1_eq k G σ h)).trans (by kernel_rfl)
def run {R : Type} (k : Nat) (a0 : GV) (h : Heap) (fin : GV → Heap → Option R) : Option R := n0 k (fun x v2 h => kend x (fin v2 h)) a0 h
theorem run_eq {R : Type} (k : Nat) (a0 : GV) (h : Heap) (fin : GV → Heap → Option R) : kfun PP cfg NN HH k fn.spec_ShowPatch [a0] h fin = run k a0 h fin := (kfun_eq (nt := 76) (c := c0) (show PP.funcs[fn.spec_ShowPatch]? = some Tryd.f108 by kernel_rfl) (by kernel_rfl) (by kernel_rfl) (fun x σ h => by cases x <;> kernel_rfl)).trans (n0_eq k (fun x v2 h => kend x (fin v2 h)) _ h)
theorem gives {k : Nat} {a0 : GV} {v : GV} (e : run k a0 [] finN = some v) : NN fn.spec_ShowPatch [a0] = some v := nω_of (by kernel_rfl) ((run_eq k a0 [] finN).trans e)
end S.spec_ShowPatch
/-! impl_ShowPatch -/
namespace S.impl_ShowPatch
noncomputable def c0 : Code := bodyOf Tryd.f110
@[simp] def n0 {R : Type} (k : Nat) (G : KT1 R) (v0 : GV) (h : Heap) : Option R := kbox v0 h fun v1 h => (kfa 2 v1).bind fun v5 => (kload1 h v5).bind fun v6 => (klen v6).bind fun v7 => (kbin .gtr v7 (.int .i64 400)).bind fun v8 => kcond v8 (G .ret (.str { data := #[] }) h) ((kloadA 3 h v1).bind fun v10 => (kN NN fn.impl_Patch_numbers [v10] h).bind fun v11 => (kxt 0 v11).bind fun v12 => (kxt 1 v11).bind fun v13 => (kun .not v13).bind fun v15 => kcond v15 (G .ret (.str { data := #[] }) h) ((kN NN fn.impl_spaced [v12] h).bind fun v17 => G .ret v17 h))
theorem n0_eq (G : KT1 R) (σ : GS) (h : Heap) : KC k 18 c0 σ h (fun x σ h => G x (σ 2) h) = n0 k G (σ 0) h := by kernel_rfl
def run {R : Type} (k : Nat) (a0 : GV) (h : Heap) (fin : GV → Heap → Option R) : Option R := n0 k (fun x v2 h => kend x (fin v2 h)) a0 h
theorem run_eq {R : Type} (k : Nat) (a0 : GV) (h : Heap) (fin : GV → Heap → Option R) : kfun PP cfg NN HH k fn.impl_ShowPatch [a0] h fin = run k a0 h fin := (kfun_eq (nt := 18) (c := c0) (show PP.funcs[fn.impl_ShowPatch]? = some Tryd.f110 by kernel_rfl) (by kernel_rfl) (by kernel_rfl) (fun x σ h => by cases x <;> kernel_rfl)).trans (n0_eq k (fun x v2 h => kend x (fin v2 h)) _ h)
theorem gives {k : Nat} {a0 : GV} {v : GV} (e : run k a0 [] finN = some v) : NN fn.impl_ShowPatch [a0] = some v := nω_of (by kernel_rfl) ((run_eq k a0 [] finN).trans e)
end S.impl_ShowPatch
/-! impl_Patch_numbers -/
namespace S.impl_Patch_numbers
noncomputable def c0 : Code := bodyOf Tryd.f159
noncomputable def c1 : Code := cR c0
noncomputable def c2 : Code := cR c1
noncomputable def c3 : Code := cR c2
@[simp] def n3 {R : Type} (k : Nat) (G : KT2 R) (v4 : GV) (h : Heap) : Option R := (kN NN fn.slices_ContainsFunc_int64 [v4, (.fn fn.impl_Patch_numbers_1 [])] h).bind fun v67 => (kun .not v67).bind fun v68 => G .ret v4 v68 h
theorem n3_eq (G : KT2 R) (σ : GS) (h : Heap) : KC k 69 c3 σ h (fun x σ h => G x (σ 2) (σ 3) h) = n3 k G (σ 4) h := by kernel_rfl
noncomputable def c4 : Code := cL c2
noncomputable def c5 : Code := cR c4
noncomputable def c6 : Code := cL c5
noncomputable def c7 : Code := cL c6
noncomputable def c8 : Code := cR c7
noncomputable def c9 : Code := cR c8
noncomputable def c10 : Code := cR c9
@[simp] def n10 {R : Type} (k : Nat) (G : KT6 R) (v2 v3 v4 v15 v16 v17 : GV) (h : Heap) : Option R := (kbin .add v17 (.int .i64 1)).bind fun v64 => G .nrm v2 v3 v4 v15 v16 v64 h
theorem n10_eq (G : KT6 R) (σ : GS) (h : Heap) : KC k 69 c10 σ h (fun x σ h => G x (σ 2) (σ 3) (σ 4) (σ 15) (σ 16) (σ 17) h) = n10 k G (σ 2) (σ 3) (σ 4) (σ 15) (σ 16) (σ 17) h := by kernel_rfl
noncomputable def c11 : Code := cL c9
noncomputable def c12 : Code := cL c11
noncomputable def c13 : Code := cR c12
noncomputable def c14 : Code := cR c13
noncomputable def c15 : Code := cR c14
noncomputable def c16 : Code := cR c15
noncomputable def c17 : Code := cL c16
noncomputable def c18 : Code := cL c17
noncomputable def c19 : Code := cR c18
noncomputable def c20 : Code := cR c19
noncomputable def c21 : Code := cR c20
@[simp] def n21 {R : Type} (k : Nat) (G : KT9 R) (v2 v3 v4 v15 v16 v17 v37 v38 v39 : GV) (h : Heap) : Option R := (kbin .add v39 (.int .i64 1)).bind fun v63 => G .nrm v2 v3 v4 v15 v16 v17 v37 v38 v63 h
theorem n21_eq (G : KT9 R) (σ : GS) (h : Heap) : KC k 69 c21 σ h (fun x σ h => G x (σ 2) (σ 3) (σ 4) (σ 15) (σ 16) (σ 17) (σ 37) (σ 38) (σ 39) h) = n21 k G (σ 2) (σ 3) (σ 4) (σ 15) (σ 16) (σ 17) (σ 37) (σ 38) (σ 39) h := by kernel_rfl
noncomputable def c22 : Code := cL c20
noncomputable def c23 : Code := cL c22
@[simp] def n23 {R : Type} (k : Nat) (G : KT9 R) (v2 v3 v4 v15 v16 v17 v37 v38 v39 : GV) (h : Heap) : Option R := (kia 7 v37 v39).bind fun v41 => (kloadA 7 h v41).bind fun v42 => kalloc [(.int .i64 0), (.int .i64 0), (.int .i64 0), (.bool false), (.bool false), (.bool false), (.int .i64 0)] h fun v8 h => (kstore 7 h v8 v42).bind fun h => (kfa 1 v8).bind fun v43 => (kloadA 5 h v43).bind fun v44 => (kN NN fn.impl_StyleOk [v44] h).bind fun v45 => (kun .not v45).bind fun v46 => kcond v46 (G .ret .nils (.bool false) v4 v15 v16 v17 v37 v38 v39 h) ((kfa 0 v8).bind fun v48 => (kload1 h v48).bind fun v49 => (kfa 1 v8).bind fun v50 => (kfa 0 v50).bind fun v51 => (kload1 h v51).bind fun v52 => (kfa 1 v8).bind fun v53 => (kfa 1 v53).bind fun v54 => (kload1 h v54).bind fun v55 => (kfa 1 v8).bind fun v56 => (kloadA 5 h v56).bind fun v57 => (kN NN fn.impl_Style_flags [v57] h).bind fun v58 => (kfa 6 v8).bind fun v59 => (kload1 h v59).bind fun v60 => (gfill (fun i => some (i * 1, 1)) (zeros [(.int .i64 0)] 5) [(0, v49), (1, v52), (2, v55), (3, v58), (4, v60)]).bind fun c => kbs 5 1 c h fun v61 h => (kapp [(.int .i64 0)] 1 8 v4 v61 h).bind fun r => kr r fun v62 h => G .nrm v2 v3 v62 v15 v16 v17 v37 v38 v39 h)
theorem n23_eq (G : KT9 R) (σ : GS) (h : Heap) : KC k 69 c23 σ h (fun x σ h => G x (σ 2) (σ 3) (σ 4) (σ 15) (σ 16) (σ 17) (σ 37) (σ 38) (σ 39) h) = n23 k G (σ 2) (σ 3) (σ 4) (σ 15) (σ 16) (σ 17) (σ 37) (σ 38) (σ 39) h := by kernel_rfl
@[simp] def n22 (G : KT9 R) (v2 v3 v4 v15 v16 v17 v37 v38 v39 : GV) (h : Heap) : Option R := n23 k (fun x v2 v3 v4 v15 v16 v17 v37 v38 v39 h => kb 3 x fun x => G x v2 v3 v4 v15 v16 v17 v37 v38 v39 h) v2 v3 v4 v15 v16 v17 v37 v38 v39 h
theorem n22_eq (G : KT9 R) (σ : GS) (h : Heap) : KC k 69 c22 σ h (fun x σ h => G x (σ 2) (σ 3) (σ 4) (σ 15) (σ 16) (σ 17) (σ 37) (σ 38) (σ 39) h) = n22 k G (σ 2) (σ 3) (σ 4) (σ 15) (σ 16) (σ 17) (σ 37) (σ 38) (σ 39) h := (kblock_eq (a := c23) rfl).trans (n23_eq k (fun x v2 v3 v4 v15 v16 v17 v37 v38 v39 h => kb 3 x fun x => G x v2 v3 v4 v15 v16 v17 v37 v38 v39 h) σ h)
@[simp] def n20 (G : KT9 R) (v2 v3 v4 v15 v16 v17 v37 v38 v39 : GV) (h : Heap) : Option R := n22 k (fun x v2 v3 v4 v15 v16 v17 v37 v38 v39 h => kx x (n21 k G v2 v3 v4 v15 v16 v17 v37 v38 v39 h) (G x v2 v3 v4 v15 v16 v17 v37 v38 v39 h)) v2 v3 v4 v15 v16 v17 v37 v38 v39 h
theorem n20_eq (G : KT9 R) (σ : GS) (h : Heap) : KC k 69 c20 σ h (fun x σ h => G x (σ 2) (σ 3) (σ 4) (σ 15) (σ 16) (σ 17) (σ 37) (σ 38) (σ 39) h) = n20 k G (σ 2) (σ 3) (σ 4) (σ 15) (σ 16) (σ 17) (σ 37) (σ 38) (σ 39) h := (kseq (b := c21) rfl (fun σ h => n21_eq k G σ h)).trans (n22_eq k (fun x v2 v3 v4 v15 v16 v17 v37 v38 v39 h => kx x (n21 k G v2 v3 v4 v15 v16 v17 v37 v38 v39 h) (G x v2 v3 v4 v15 v16 v17 v37 v38 v39 h)) σ h)
noncomputable def c24 : Code := cL c19
@[simp] def n19 (G : KT9 R) (v2 v3 v4 v15 v16 v17 v37 v38 v39 v40 : GV) (h : Heap) : Option R := kcond v40 (n20 k G v2 v3 v4 v15 v16 v17 v37 v38 v39 h) (G (.ext 2) v2 v3 v4 v15 v16 v17 v37 v38 v39 h)
theorem n19_eq (G : KT9 R) (σ : GS) (h : Heap) : KC k 69 c19 σ h (fun x σ h => G x (σ 2) (σ 3) (σ 4) (σ 15) (σ 16) (σ 17) (σ 37) (σ 38) (σ 39) h) = n19 k G (σ 2) (σ 3) (σ 4) (σ 15) (σ 16) (σ 17) (σ 37) (σ 38) (σ 39) (σ 40) h := (kseq (a := c24) (b := c20) rfl (fun σ h => n20_eq k G σ h)).trans (by kernel_rfl)
noncomputable def c25 : Code := cL c18
@[simp] def n18 (G : KT9 R) (v2 v3 v4 v15 v16 v17 v37 v38 v39 : GV) (h : Heap) : Option R := (kbin .lss v39 v38).bind fun v40 => n19 k G v2 v3 v4 v15 v16 v17 v37 v38 v39 v40 h
theorem n18_eq (G : KT9 R) (σ : GS) (h : Heap) : KC k 69 c18 σ h (fun x σ h => G x (σ 2) (σ 3) (σ 4) (σ 15) (σ 16) (σ 17) (σ 37) (σ 38) (σ 39) h) = n18 k G (σ 2) (σ 3) (σ 4) (σ 15) (σ 16) (σ 17) (σ 37) (σ 38) (σ 39) h := (kseq (a := c25) (b := c19) rfl (fun σ h => n19_eq k G σ h)).trans (by kernel_rfl)
def l17 {R : Type} (k : Nat) (G : KT6 R) : Nat → GV → GV → GV → GV → GV → GV → GV → GV → GV → Heap → Option R
  | 0, _, _, _, _, _, _, _, _, _, _ => none
  | r + 1, v2, v3, v4, v15, v16, v17, v37, v38, v39, h => n18 k (fun x v2 v3 v4 v15 v16 v17 v37 v38 v39 h => kx x (l17 k G r v2 v3 v4 v15 v16 v17 v37 v38 v39 h) (G x v2 v3 v4 v15 v16 v17 h)) v2 v3 v4 v15 v16 v17 v37 v38 v39 h
theorem l17_eq {R : Type} (k : Nat) (G : KT6 R) : ∀ (r : Nat) (σ : GS) (h : Heap), kloop (fun σ h K => KC k 69 c18 σ h K) r σ h (fun x σ h => G x (σ 2) (σ 3) (σ 4) (σ 15) (σ 16) (σ 17) h) = l17 k G r (σ 2) (σ 3) (σ 4) (σ 15) (σ 16) (σ 17) (σ 37) (σ 38) (σ 39) h
  | 0, _, _ => rfl
  | r + 1, σ, h => (kloop_eq (fun σ h => l17_eq k G r σ h)).trans (n18_eq k (fun x v2 v3 v4 v15 v16 v17 v37 v38 v39 h => kx x (l17 k G r v2 v3 v4 v15 v16 v17 v37 v38 v39 h) (G x v2 v3 v4 v15 v16 v17 h)) σ h)
@[simp] def n17 (G : KT6 R) (v2 v3 v4 v15 v16 v17 v37 v38 v39 : GV) (h : Heap) : Option R := l17 k G k v2 v3 v4 v15 v16 v17 v37 v38 v39 h
theorem n17_eq (G : KT6 R) (σ : GS) (h : Heap) : KC k 69 c17 σ h (fun x σ h => G x (σ 2) (σ 3) (σ 4) (σ 15) (σ 16) (σ 17) h) = n17 k G (σ 2) (σ 3) (σ 4) (σ 15) (σ 16) (σ 17) (σ 37) (σ 38) (σ 39) h := (kloopc_eq (a := c18) rfl).trans (l17_eq k G k σ h)
@[simp] def n16 (G : KT6 R) (v2 v3 v4 v15 v16 v17 v37 v38 v39 : GV) (h : Heap) : Option R := n17 k (fun x v2 v3 v4 v15 v16 v17 h => kb 2 x fun x => G x v2 v3 v4 v15 v16 v17 h) v2 v3 v4 v15 v16 v17 v37 v38 v39 h
theorem n16_eq (G : KT6 R) (σ : GS) (h : Heap) : KC k 69 c16 σ h (fun x σ h => G x (σ 2) (σ 3) (σ 4) (σ 15) (σ 16) (σ 17) h) = n16 k G (σ 2) (σ 3) (σ 4) (σ 15) (σ 16) (σ 17) (σ 37) (σ 38) (σ 39) h := (kblock_eq (a := c17) rfl).trans (n17_eq k (fun x v2 v3 v4 v15 v16 v17 h => kb 2 x fun x => G x v2 v3 v4 v15 v16 v17 h) σ h)
noncomputable def c26 : Code := cL c15
@[simp] def n15 (G : KT6 R) (v2 v3 v4 v6 v15 v16 v17 : GV) (h : Heap) : Option R := (kfa 2 v6).bind fun v36 => (kload1 h v36).bind fun v37 => (klen v37).bind fun v38 => n16 k G v2 v3 v4 v15 v16 v17 v37 v38 (.int .i64 0) h
theorem n15_eq (G : KT6 R) (σ : GS) (h : Heap) : KC k 69 c15 σ h (fun x σ h => G x (σ 2) (σ 3) (σ 4) (σ 15) (σ 16) (σ 17) h) = n15 k G (σ 2) (σ 3) (σ 4) (σ 6) (σ 15) (σ 16) (σ 17) h := (kseq (a := c26) (b := c16) rfl (fun σ h => n16_eq k G σ h)).trans (by kernel_rfl)
noncomputable def c27 : Code := cL c14
@[simp] def n14 (G : KT6 R) (v2 v3 v4 v6 v15 v16 v17 : GV) (h : Heap) : Option R := (kfa 0 v6).bind fun v27 => (kload1 h v27).bind fun v28 => (kfa 1 v6).bind fun v29 => (kload1 h v29).bind fun v30 => (kfa 2 v6).bind fun v31 => (kload1 h v31).bind fun v32 => (klen v32).bind fun v33 => (gfill (fun i => some (i * 1, 1)) (zeros [(.int .i64 0)] 3) [(0, v28), (1, v30), (2, v33)]).bind fun c => kbs 3 1 c h fun v34 h => (kapp [(.int .i64 0)] 1 8 v4 v34 h).bind fun r => kr r fun v35 h => n15 k G v2 v3 v35 v6 v15 v16 v17 h
theorem n14_eq (G : KT6 R) (σ : GS) (h : Heap) : KC k 69 c14 σ h (fun x σ h => G x (σ 2) (σ 3) (σ 4) (σ 15) (σ 16) (σ 17) h) = n14 k G (σ 2) (σ 3) (σ 4) (σ 6) (σ 15) (σ 16) (σ 17) h := (kseq (a := c27) (b := c15) rfl (fun σ h => n15_eq k G σ h)).trans (by kernel_rfl)
noncomputable def c28 : Code := cL c13
@[simp] def n13 (G : KT6 R) (v2 v3 v4 v6 v15 v16 v17 : GV) (h : Heap) : Option R := (kfa 2 v6).bind fun v21 => (kload1 h v21).bind fun v22 => (klen v22).bind fun v23 => (kN NN fn.impl_in [v23, (.int .i64 1), (.int .i64 60)] h).bind fun v24 => (kun .not v24).bind fun v25 => kcond v25 (G .ret .nils (.bool false) v4 v15 v16 v17 h) (n14 k G v2 v3 v4 v6 v15 v16 v17 h)
theorem n13_eq (G : KT6 R) (σ : GS) (h : Heap) : KC k 69 c13 σ h (fun x σ h => G x (σ 2) (σ 3) (σ 4) (σ 15) (σ 16) (σ 17) h) = n13 k G (σ 2) (σ 3) (σ 4) (σ 6) (σ 15) (σ 16) (σ 17) h := (kseq (a := c28) (b := c14) rfl (fun σ h => n14_eq k G σ h)).trans (by kernel_rfl)
noncomputable def c29 : Code := cL c12
@[simp] def n12 (G : KT6 R) (v2 v3 v4 v15 v16 v17 : GV) (h : Heap) : Option R := (kia 3 v15 v17).bind fun v19 => (kloadA 3 h v19).bind fun v20 => kalloc [(.int .i64 0), (.int .i64 0), .nils] h fun v6 h => (kstore 3 h v6 v20).bind fun h => n13 k G v2 v3 v4 v6 v15 v16 v17 h
theorem n12_eq (G : KT6 R) (σ : GS) (h : Heap) : KC k 69 c12 σ h (fun x σ h => G x (σ 2) (σ 3) (σ 4) (σ 15) (σ 16) (σ 17) h) = n12 k G (σ 2) (σ 3) (σ 4) (σ 15) (σ 16) (σ 17) h := (kseq (a := c29) (b := c13) rfl (fun σ h => n13_eq k G σ h)).trans (by kernel_rfl)
@[simp] def n11 (G : KT6 R) (v2 v3 v4 v15 v16 v17 : GV) (h : Heap) : Option R := n12 k (fun x v2 v3 v4 v15 v16 v17 h => kb 1 x fun x => G x v2 v3 v4 v15 v16 v17 h) v2 v3 v4 v15 v16 v17 h
theorem n11_eq (G : KT6 R) (σ : GS) (h : Heap) : KC k 69 c11 σ h (fun x σ h => G x (σ 2) (σ 3) (σ 4) (σ 15) (σ 16) (σ 17) h) = n11 k G (σ 2) (σ 3) (σ 4) (σ 15) (σ 16) (σ 17) h := (kblock_eq (a := c12) rfl).trans (n12_eq k (fun x v2 v3 v4 v15 v16 v17 h => kb 1 x fun x => G x v2 v3 v4 v15 v16 v17 h) σ h)
@[simp] def n9 (G : KT6 R) (v2 v3 v4 v15 v16 v17 : GV) (h : Heap) : Option R := n11 k (fun x v2 v3 v4 v15 v16 v17 h => kx x (n10 k G v2 v3 v4 v15 v16 v17 h) (G x v2 v3 v4 v15 v16 v17 h)) v2 v3 v4 v15 v16 v17 h
theorem n9_eq (G : KT6 R) (σ : GS) (h : Heap) : KC k 69 c9 σ h (fun x σ h => G x (σ 2) (σ 3) (σ 4) (σ 15) (σ 16) (σ 17) h) = n9 k G (σ 2) (σ 3) (σ 4) (σ 15) (σ 16) (σ 17) h := (kseq (b := c10) rfl (fun σ h => n10_eq k G σ h)).trans (n11_eq k (fun x v2 v3 v4 v15 v16 v17 h => kx x (n10 k G v2 v3 v4 v15 v16 v17 h) (G x v2 v3 v4 v15 v16 v17 h)) σ h)
noncomputable def c30 : Code := cL c8
@[simp] def n8 (G : KT6 R) (v2 v3 v4 v15 v16 v17 v18 : GV) (h : Heap) : Option R := kcond v18 (n9 k G v2 v3 v4 v15 v16 v17 h) (G (.ext 0) v2 v3 v4 v15 v16 v17 h)
theorem n8_eq (G : KT6 R) (σ : GS) (h : Heap) : KC k 69 c8 σ h (fun x σ h => G x (σ 2) (σ 3) (σ 4) (σ 15) (σ 16) (σ 17) h) = n8 k G (σ 2) (σ 3) (σ 4) (σ 15) (σ 16) (σ 17) (σ 18) h := (kseq (a := c30) (b := c9) rfl (fun σ h => n9_eq k G σ h)).trans (by kernel_rfl)
noncomputable def c31 : Code := cL c7
@[simp] def n7 (G : KT6 R) (v2 v3 v4 v15 v16 v17 : GV) (h : Heap) : Option R := (kbin .lss v17 v16).bind fun v18 => n8 k G v2 v3 v4 v15 v16 v17 v18 h
theorem n7_eq (G : KT6 R) (σ : GS) (h : Heap) : KC k 69 c7 σ h (fun x σ h => G x (σ 2) (σ 3) (σ 4) (σ 15) (σ 16) (σ 17) h) = n7 k G (σ 2) (σ 3) (σ 4) (σ 15) (σ 16) (σ 17) h := (kseq (a := c31) (b := c8) rfl (fun σ h => n8_eq k G σ h)).trans (by kernel_rfl)
def l6 {R : Type} (k : Nat) (G : KT3 R) : Nat → GV → GV → GV → GV → GV → GV → Heap → Option R
  | 0, _, _, _, _, _, _, _ => none
  | r + 1, v2, v3, v4, v15, v16, v17, h => n7 k (fun x v2 v3 v4 v15 v16 v17 h => kx x (l6 k G r v2 v3 v4 v15 v16 v17 h) (G x v2 v3 v4 h)) v2 v3 v4 v15 v16 v17 h
theorem l6_eq {R : Type} (k : Nat) (G : KT3 R) : ∀ (r : Nat) (σ : GS) (h : Heap), kloop (fun σ h K => KC k 69 c7 σ h K) r σ h (fun x σ h => G x (σ 2) (σ 3) (σ 4) h) = l6 k G r (σ 2) (σ 3) (σ 4) (σ 15) (σ 16) (σ 17) h
  | 0, _, _ => rfl
  | r + 1, σ, h => (kloop_eq (fun σ h => l6_eq k G r σ h)).trans (n7_eq k (fun x v2 v3 v4 v15 v16 v17 h => kx x (l6 k G r v2 v3 v4 v15 v16 v17 h) (G x v2 v3 v4 h)) σ h)
@[simp] def n6 (G : KT3 R) (v2 v3 v4 v15 v16 v17 : GV) (h : Heap) : Option R := l6 k G k v2 v3 v4 v15 v16 v17 h
theorem n6_eq (G : KT3 R) (σ : GS) (h : Heap) : KC k 69 c6 σ h (fun x σ h => G x (σ 2) (σ 3) (σ 4) h) = n6 k G (σ 2) (σ 3) (σ 4) (σ 15) (σ 16) (σ 17) h := (kloopc_eq (a := c7) rfl).trans (l6_eq k G k σ h)
@[simp] def n5 (G : KT3 R) (v2 v3 v4 v15 v16 v17 : GV) (h : Heap) : Option R := n6 k (fun x v2 v3 v4 h => kb 0 x fun x => G x v2 v3 v4 h) v2 v3 v4 v15 v16 v17 h
theorem n5_eq (G : KT3 R) (σ : GS) (h : Heap) : KC k 69 c5 σ h (fun x σ h => G x (σ 2) (σ 3) (σ 4) h) = n5 k G (σ 2) (σ 3) (σ 4) (σ 15) (σ 16) (σ 17) h := (kblock_eq (a := c6) rfl).trans (n6_eq k (fun x v2 v3 v4 h => kb 0 x fun x => G x v2 v3 v4 h) σ h)
noncomputable def c32 : Code := cL c4
@[simp] def n4 (G : KT3 R) (v1 v2 v3 v4 : GV) (h : Heap) : Option R := (kfa 2 v1).bind fun v14 => (kload1 h v14).bind fun v15 => (klen v15).bind fun v16 => n5 k G v2 v3 v4 v15 v16 (.int .i64 0) h
theorem n4_eq (G : KT3 R) (σ : GS) (h : Heap) : KC k 69 c4 σ h (fun x σ h => G x (σ 2) (σ 3) (σ 4) h) = n4 k G (σ 1) (σ 2) (σ 3) (σ 4) h := (kseq (a := c32) (b := c5) rfl (fun σ h => n5_eq k G σ h)).trans (by kernel_rfl)
@[simp] def n2 (G : KT2 R) (v1 v2 v3 v4 : GV) (h : Heap) : Option R := n4 k (fun x v2 v3 v4 h => kx x (n3 k G v4 h) (G x v2 v3 h)) v1 v2 v3 v4 h
theorem n2_eq (G : KT2 R) (σ : GS) (h : Heap) : KC k 69 c2 σ h (fun x σ h => G x (σ 2) (σ 3) h) = n2 k G (σ 1) (σ 2) (σ 3) (σ 4) h := (kseq (b := c3) rfl (fun σ h => n3_eq k G σ h)).trans (n4_eq k (fun x v2 v3 v4 h => kx x (n3 k G v4 h) (G x v2 v3 h)) σ h)
noncomputable def c33 : Code := cL c1
@[simp] def n1 (G : KT2 R) (v1 v2 v3 : GV) (h : Heap) : Option R := (kfa 0 v1).bind fun v9 => (kload1 h v9).bind fun v10 => (kfa 1 v1).bind fun v11 => (kload1 h v11).bind fun v12 => (gfill (fun i => some (i * 1, 1)) (zeros [(.int .i64 0)] 2) [(0, v10), (1, v12)]).bind fun c => kbs 2 1 c h fun v13 h => n2 k G v1 v2 v3 v13 h
theorem n1_eq (G : KT2 R) (σ : GS) (h : Heap) : KC k 69 c1 σ h (fun x σ h => G x (σ 2) (σ 3) h) = n1 k G (σ 1) (σ 2) (σ 3) h := (kseq (a := c33) (b := c2) rfl (fun σ h => n2_eq k G σ h)).trans (by kernel_rfl)
noncomputable def c34 : Code := cL c0
@[simp] def n0 (G : KT2 R) (v0 : GV) (h : Heap) : Option R := kbox v0 h fun v1 h => n1 k G v1 .nils (.bool false) h
theorem n0_eq (G : KT2 R) (σ : GS) (h : Heap) : KC k 69 c0 σ h (fun x σ h => G x (σ 2) (σ 3) h) = n0 k G (σ 0) h := (kseq (a := c34) (b := c1) rfl (fun σ h => n1_eq k G σ h)).trans (by kernel_rfl)
def run {R : Type} (k : Nat) (a0 : GV) (h : Heap) (fin : GV → Heap → Option R) : Option R := n0 k (fun x v2 v3 h => kend x (fin (.tup [v2, v3]) h)) a0 h
theorem run_eq {R : Type} (k : Nat) (a0 : GV) (h : Heap) (fin : GV → Heap → Option R) : kfun PP cfg NN HH k fn.impl_Patch_numbers [a0] h fin = run k a0 h fin := (kfun_eq (nt := 69) (c := c0) (show PP.funcs[fn.impl_Patch_numbers]? = some Tryd.f159 by kernel_rfl) (by kernel_rfl) (by kernel_rfl) (fun x σ h => by cases x <;> kernel_rfl)).trans (n0_eq k (fun x v2 v3 h => kend x (fin (.tup [v2, v3]) h)) _ h)
theorem gives {k : Nat} {a0 : GV} {v : GV} (e : run k a0 [] finN = some v) : NN fn.impl_Patch_numbers [a0] = some v := nω_of (by kernel_rfl) ((run_eq k a0 [] finN).trans e)
end S.impl_Patch_numbers
/-! impl_Patch_numbers_1 -/
namespace S.impl_Patch_numbers_1
noncomputable def c0 : Code := bodyOf Tryd.f199
@[simp] def n0 {R : Type} (k : Nat) (G : KT1 R) (v0 : GV) (h : Heap) : Option R := (kN NN fn.impl_in [v0, (.int .i64 0), (.int .i64 9999999)] h).bind fun v4 => (kun .not v4).bind fun v5 => G .ret v5 h
theorem n0_eq (G : KT1 R) (σ : GS) (h : Heap) : KC k 6 c0 σ h (fun x σ h => G x (σ 2) h) = n0 k G (σ 0) h := by kernel_rfl
def run {R : Type} (k : Nat) (a0 : GV) (h : Heap) (fin : GV → Heap → Option R) : Option R := n0 k (fun x v2 h => kend x (fin v2 h)) a0 h
theorem run_eq {R : Type} (k : Nat) (a0 : GV) (h : Heap) (fin : GV → Heap → Option R) : kfun PP cfg NN HH k fn.impl_Patch_numbers_1 [a0] h fin = run k a0 h fin := (kfun_eq (nt := 6) (c := c0) (show PP.funcs[fn.impl_Patch_numbers_1]? = some Tryd.f199 by kernel_rfl) (by kernel_rfl) (by kernel_rfl) (fun x σ h => by cases x <;> kernel_rfl)).trans (n0_eq k (fun x v2 h => kend x (fin v2 h)) _ h)
theorem gives {k : Nat} {a0 : GV} {v : GV} (e : run k a0 [] finN = some v) : NN fn.impl_Patch_numbers_1 [a0] = some v := nω_of (by kernel_rfl) ((run_eq k a0 [] finN).trans e)
end S.impl_Patch_numbers_1
/-! impl_Style_flags -/
namespace S.impl_Style_flags
noncomputable def c0 : Code := bodyOf Tryd.f198
noncomputable def c1 : Code := cR c0
noncomputable def c2 : Code := cR c1
noncomputable def c3 : Code := cR c2
@[simp] def n3 {R : Type} (k : Nat) (G : KT1 R) (v3 : GV) (h : Heap) : Option R := G .ret v3 h
theorem n3_eq (G : KT1 R) (σ : GS) (h : Heap) : KC k 24 c3 σ h (fun x σ h => G x (σ 2) h) = n3 k G (σ 3) h := by kernel_rfl
noncomputable def c4 : Code := cL c2
noncomputable def c5 : Code := cR c4
noncomputable def c6 : Code := cL c5
noncomputable def c7 : Code := cL c6
noncomputable def c8 : Code := cR c7
noncomputable def c9 : Code := cR c8
noncomputable def c10 : Code := cR c9
@[simp] def n10 {R : Type} (k : Nat) (G : KT4 R) (v2 v3 v12 v13 : GV) (h : Heap) : Option R := (kbin .add v13 (.int .i64 1)).bind fun v22 => G .nrm v2 v3 v12 v22 h
theorem n10_eq (G : KT4 R) (σ : GS) (h : Heap) : KC k 24 c10 σ h (fun x σ h => G x (σ 2) (σ 3) (σ 12) (σ 13) h) = n10 k G (σ 2) (σ 3) (σ 12) (σ 13) h := by kernel_rfl
noncomputable def c11 : Code := cL c9
noncomputable def c12 : Code := cL c11
@[simp] def n12 {R : Type} (k : Nat) (G : KT4 R) (v2 v3 v12 v13 : GV) (h : Heap) : Option R := (kcs v12).bind fun cs => (kint v13).bind fun iz => if 0 ≤ iz ∧ iz < ((3 : Nat) : Int) then (kpart1 (iz.toNat * 1) cs).bind fun v16 => kcond v16 ((kbin .shl (.int .i64 1) v13).bind fun v20 => (kbin .add v3 v20).bind fun v21 => G .nrm v2 v21 v12 v13 h) (G .nrm v2 v3 v12 v13 h) else none
theorem n12_eq (G : KT4 R) (σ : GS) (h : Heap) : KC k 24 c12 σ h (fun x σ h => G x (σ 2) (σ 3) (σ 12) (σ 13) h) = n12 k G (σ 2) (σ 3) (σ 12) (σ 13) h := by kernel_rfl
@[simp] def n11 (G : KT4 R) (v2 v3 v12 v13 : GV) (h : Heap) : Option R := n12 k (fun x v2 v3 v12 v13 h => kb 1 x fun x => G x v2 v3 v12 v13 h) v2 v3 v12 v13 h
theorem n11_eq (G : KT4 R) (σ : GS) (h : Heap) : KC k 24 c11 σ h (fun x σ h => G x (σ 2) (σ 3) (σ 12) (σ 13) h) = n11 k G (σ 2) (σ 3) (σ 12) (σ 13) h := (kblock_eq (a := c12) rfl).trans (n12_eq k (fun x v2 v3 v12 v13 h => kb 1 x fun x => G x v2 v3 v12 v13 h) σ h)
@[simp] def n9 (G : KT4 R) (v2 v3 v12 v13 : GV) (h : Heap) : Option R := n11 k (fun x v2 v3 v12 v13 h => kx x (n10 k G v2 v3 v12 v13 h) (G x v2 v3 v12 v13 h)) v2 v3 v12 v13 h
theorem n9_eq (G : KT4 R) (σ : GS) (h : Heap) : KC k 24 c9 σ h (fun x σ h => G x (σ 2) (σ 3) (σ 12) (σ 13) h) = n9 k G (σ 2) (σ 3) (σ 12) (σ 13) h := (kseq (b := c10) rfl (fun σ h => n10_eq k G σ h)).trans (n11_eq k (fun x v2 v3 v12 v13 h => kx x (n10 k G v2 v3 v12 v13 h) (G x v2 v3 v12 v13 h)) σ h)
noncomputable def c13 : Code := cL c8
@[simp] def n8 (G : KT4 R) (v2 v3 v12 v13 v14 : GV) (h : Heap) : Option R := kcond v14 (n9 k G v2 v3 v12 v13 h) (G (.ext 0) v2 v3 v12 v13 h)
theorem n8_eq (G : KT4 R) (σ : GS) (h : Heap) : KC k 24 c8 σ h (fun x σ h => G x (σ 2) (σ 3) (σ 12) (σ 13) h) = n8 k G (σ 2) (σ 3) (σ 12) (σ 13) (σ 14) h := (kseq (a := c13) (b := c9) rfl (fun σ h => n9_eq k G σ h)).trans (by kernel_rfl)
noncomputable def c14 : Code := cL c7
@[simp] def n7 (G : KT4 R) (v2 v3 v12 v13 : GV) (h : Heap) : Option R := (kbin .lss v13 (.int .i64 3)).bind fun v14 => n8 k G v2 v3 v12 v13 v14 h
theorem n7_eq (G : KT4 R) (σ : GS) (h : Heap) : KC k 24 c7 σ h (fun x σ h => G x (σ 2) (σ 3) (σ 12) (σ 13) h) = n7 k G (σ 2) (σ 3) (σ 12) (σ 13) h := (kseq (a := c14) (b := c8) rfl (fun σ h => n8_eq k G σ h)).trans (by kernel_rfl)
def l6 {R : Type} (k : Nat) (G : KT2 R) : Nat → GV → GV → GV → GV → Heap → Option R
  | 0, _, _, _, _, _ => none
  | r + 1, v2, v3, v12, v13, h => n7 k (fun x v2 v3 v12 v13 h => kx x (l6 k G r v2 v3 v12 v13 h) (G x v2 v3 h)) v2 v3 v12 v13 h
theorem l6_eq {R : Type} (k : Nat) (G : KT2 R) : ∀ (r : Nat) (σ : GS) (h : Heap), kloop (fun σ h K => KC k 24 c7 σ h K) r σ h (fun x σ h => G x (σ 2) (σ 3) h) = l6 k G r (σ 2) (σ 3) (σ 12) (σ 13) h
  | 0, _, _ => rfl
  | r + 1, σ, h => (kloop_eq (fun σ h => l6_eq k G r σ h)).trans (n7_eq k (fun x v2 v3 v12 v13 h => kx x (l6 k G r v2 v3 v12 v13 h) (G x v2 v3 h)) σ h)
@[simp] def n6 (G : KT2 R) (v2 v3 v12 v13 : GV) (h : Heap) : Option R := l6 k G k v2 v3 v12 v13 h
theorem n6_eq (G : KT2 R) (σ : GS) (h : Heap) : KC k 24 c6 σ h (fun x σ h => G x (σ 2) (σ 3) h) = n6 k G (σ 2) (σ 3) (σ 12) (σ 13) h := (kloopc_eq (a := c7) rfl).trans (l6_eq k G k σ h)
@[simp] def n5 (G : KT2 R) (v2 v3 v12 v13 : GV) (h : Heap) : Option R := n6 k (fun x v2 v3 h => kb 0 x fun x => G x v2 v3 h) v2 v3 v12 v13 h
theorem n5_eq (G : KT2 R) (σ : GS) (h : Heap) : KC k 24 c5 σ h (fun x σ h => G x (σ 2) (σ 3) h) = n5 k G (σ 2) (σ 3) (σ 12) (σ 13) h := (kblock_eq (a := c6) rfl).trans (n6_eq k (fun x v2 v3 h => kb 0 x fun x => G x v2 v3 h) σ h)
noncomputable def c15 : Code := cL c4
@[simp] def n4 (G : KT2 R) (v1 v2 v3 : GV) (h : Heap) : Option R := (kfa 2 v1).bind fun v6 => (kload1 h v6).bind fun v7 => (kfa 3 v1).bind fun v8 => (kload1 h v8).bind fun v9 => (kfa 4 v1).bind fun v10 => (kload1 h v10).bind fun v11 => (gfill (fun i => some (i * 1, 1)) [(.bool false), (.bool false), (.bool false)] [(0, v7), (1, v9), (2, v11)]).bind fun c => kagg c h fun v12 h => n5 k G v2 v3 v12 (.int .i64 0) h
theorem n4_eq (G : KT2 R) (σ : GS) (h : Heap) : KC k 24 c4 σ h (fun x σ h => G x (σ 2) (σ 3) h) = n4 k G (σ 1) (σ 2) (σ 3) h := (kseq (a := c15) (b := c5) rfl (fun σ h => n5_eq k G σ h)).trans (by kernel_rfl)
@[simp] def n2 (G : KT1 R) (v1 v2 v3 : GV) (h : Heap) : Option R := n4 k (fun x v2 v3 h => kx x (n3 k G v3 h) (G x v2 h)) v1 v2 v3 h
theorem n2_eq (G : KT1 R) (σ : GS) (h : Heap) : KC k 24 c2 σ h (fun x σ h => G x (σ 2) h) = n2 k G (σ 1) (σ 2) (σ 3) h := (kseq (b := c3) rfl (fun σ h => n3_eq k G σ h)).trans (n4_eq k (fun x v2 v3 h => kx x (n3 k G v3 h) (G x v2 h)) σ h)
noncomputable def c16 : Code := cL c1
@[simp] def n1 (G : KT1 R) (v1 v2 : GV) (h : Heap) : Option R := n2 k G v1 v2 (.int .i64 0) h
theorem n1_eq (G : KT1 R) (σ : GS) (h : Heap) : KC k 24 c1 σ h (fun x σ h => G x (σ 2) h) = n1 k G (σ 1) (σ 2) h := (kseq (a := c16) (b := c2) rfl (fun σ h => n2_eq k G σ h)).trans (by kernel_rfl)
noncomputable def c17 : Code := cL c0
@[simp] def n0 (G : KT1 R) (v0 : GV) (h : Heap) : Option R := kbox v0 h fun v1 h => n1 k G v1 (.int .i64 0) h
theorem n0_eq (G : KT1 R) (σ : GS) (h : Heap) : KC k 24 c0 σ h (fun x σ h => G x (σ 2) h) = n0 k G (σ 0) h := (kseq (a := c17) (b := c1) rfl (fun σ h => n1_eq k G σ h)).trans (by kernel_rfl)
def run {R : Type} (k : Nat) (a0 : GV) (h : Heap) (fin : GV → Heap → Option R) : Option R := n0 k (fun x v2 h => kend x (fin v2 h)) a0 h
theorem run_eq {R : Type} (k : Nat) (a0 : GV) (h : Heap) (fin : GV → Heap → Option R) : kfun PP cfg NN HH k fn.impl_Style_flags [a0] h fin = run k a0 h fin := (kfun_eq (nt := 24) (c := c0) (show PP.funcs[fn.impl_Style_flags]? = some Tryd.f198 by kernel_rfl) (by kernel_rfl) (by kernel_rfl) (fun x σ h => by cases x <;> kernel_rfl)).trans (n0_eq k (fun x v2 h => kend x (fin v2 h)) _ h)
theorem gives {k : Nat} {a0 : GV} {v : GV} (e : run k a0 [] finN = some v) : NN fn.impl_Style_flags [a0] = some v := nω_of (by kernel_rfl) ((run_eq k a0 [] finN).trans e)
end S.impl_Style_flags
/-! spec_l10Numbers -/
namespace S.spec_l10Numbers
noncomputable def c0 : Code := bodyOf Tryd.f157
noncomputable def c1 : Code := cR c0
noncomputable def c2 : Code := cR c1
noncomputable def c3 : Code := cR c2
@[simp] def n3 {R : Type} (k : Nat) (G : KT1 R) (v3 : GV) (h : Heap) : Option R := G .ret v3 h
theorem n3_eq (G : KT1 R) (σ : GS) (h : Heap) : KC k 64 c3 σ h (fun x σ h => G x (σ 2) h) = n3 k G (σ 3) h := by kernel_rfl
noncomputable def c4 : Code := cL c2
noncomputable def c5 : Code := cR c4
noncomputable def c6 : Code := cL c5
noncomputable def c7 : Code := cL c6
noncomputable def c8 : Code := cR c7
noncomputable def c9 : Code := cR c8
@[simp] def n9 {R : Type} (k : Nat) (G : KT4 R) (v1 v2 v3 v4 : GV) (h : Heap) : Option R := (kbin .add v4 (.int .i64 1)).bind fun v19 => G .nrm v1 v2 v3 v19 h
theorem n9_eq (G : KT4 R) (σ : GS) (h : Heap) : KC k 64 c9 σ h (fun x σ h => G x (σ 1) (σ 2) (σ 3) (σ 4) h) = n9 k G (σ 1) (σ 2) (σ 3) (σ 4) h := by kernel_rfl
noncomputable def c10 : Code := cL c8
noncomputable def c11 : Code := cL c10
noncomputable def c12 : Code := cR c11
noncomputable def c13 : Code := cR c12
noncomputable def c14 : Code := cR c13
noncomputable def c15 : Code := cL c14
noncomputable def c16 : Code := cL c15
noncomputable def c17 : Code := cR c16
noncomputable def c18 : Code := cR c17
@[simp] def n18 {R : Type} (k : Nat) (G : KT6 R) (v1 v2 v3 v4 v5 v6 : GV) (h : Heap) : Option R := (kbin .add v6 (.int .i64 1)).bind fun v41 => G .nrm v1 v2 v3 v4 v5 v41 h
theorem n18_eq (G : KT6 R) (σ : GS) (h : Heap) : KC k 64 c18 σ h (fun x σ h => G x (σ 1) (σ 2) (σ 3) (σ 4) (σ 5) (σ 6) h) = n18 k G (σ 1) (σ 2) (σ 3) (σ 4) (σ 5) (σ 6) h := by kernel_rfl
noncomputable def c19 : Code := cL c17
noncomputable def c20 : Code := cL c19
@[simp] def n20 {R : Type} (k : Nat) (G : KT6 R) (v1 v2 v3 v4 v5 v6 : GV) (h : Heap) : Option R := (kfa 2 v5).bind fun v42 => (kload1 h v42).bind fun v43 => (kia 7 v43 v6).bind fun v45 => (kloadA 7 h v45).bind fun v46 => kalloc [(.int .i64 0), (.int .i64 0), (.int .i64 0), (.bool false), (.bool false), (.bool false), (.int .i64 0)] h fun v7 h => (kstore 7 h v7 v46).bind fun h => (kfa 0 v7).bind fun v48 => (kload1 h v48).bind fun v49 => (kfa 1 v7).bind fun v50 => (kfa 0 v50).bind fun v51 => (kload1 h v51).bind fun v52 => (kfa 1 v7).bind fun v53 => (kfa 1 v53).bind fun v54 => (kload1 h v54).bind fun v55 => (kfa 1 v7).bind fun v56 => (kloadA 5 h v56).bind fun v57 => (kN NN fn.spec_l10Flags [v57] h).bind fun v58 => (kfa 6 v7).bind fun v59 => (kload1 h v59).bind fun v60 => (gfill (fun i => some (i * 1, 1)) (zeros [(.int .i64 0)] 5) [(0, v49), (1, v52), (2, v55), (3, v58), (4, v60)]).bind fun c => kbs 5 1 c h fun v61 h => (kapp [(.int .i64 0)] 1 8 v3 v61 h).bind fun r => kr r fun v62 h => G .nrm v1 v2 v62 v4 v5 v6 h
theorem n20_eq (G : KT6 R) (σ : GS) (h : Heap) : KC k 64 c20 σ h (fun x σ h => G x (σ 1) (σ 2) (σ 3) (σ 4) (σ 5) (σ 6) h) = n20 k G (σ 1) (σ 2) (σ 3) (σ 4) (σ 5) (σ 6) h := by kernel_rfl
@[simp] def n19 (G : KT6 R) (v1 v2 v3 v4 v5 v6 : GV) (h : Heap) : Option R := n20 k (fun x v1 v2 v3 v4 v5 v6 h => kb 3 x fun x => G x v1 v2 v3 v4 v5 v6 h) v1 v2 v3 v4 v5 v6 h
theorem n19_eq (G : KT6 R) (σ : GS) (h : Heap) : KC k 64 c19 σ h (fun x σ h => G x (σ 1) (σ 2) (σ 3) (σ 4) (σ 5) (σ 6) h) = n19 k G (σ 1) (σ 2) (σ 3) (σ 4) (σ 5) (σ 6) h := (kblock_eq (a := c20) rfl).trans (n20_eq k (fun x v1 v2 v3 v4 v5 v6 h => kb 3 x fun x => G x v1 v2 v3 v4 v5 v6 h) σ h)
@[simp] def n17 (G : KT6 R) (v1 v2 v3 v4 v5 v6 : GV) (h : Heap) : Option R := n19 k (fun x v1 v2 v3 v4 v5 v6 h => kx x (n18 k G v1 v2 v3 v4 v5 v6 h) (G x v1 v2 v3 v4 v5 v6 h)) v1 v2 v3 v4 v5 v6 h
theorem n17_eq (G : KT6 R) (σ : GS) (h : Heap) : KC k 64 c17 σ h (fun x σ h => G x (σ 1) (σ 2) (σ 3) (σ 4) (σ 5) (σ 6) h) = n17 k G (σ 1) (σ 2) (σ 3) (σ 4) (σ 5) (σ 6) h := (kseq (b := c18) rfl (fun σ h => n18_eq k G σ h)).trans (n19_eq k (fun x v1 v2 v3 v4 v5 v6 h => kx x (n18 k G v1 v2 v3 v4 v5 v6 h) (G x v1 v2 v3 v4 v5 v6 h)) σ h)
noncomputable def c21 : Code := cL c16
@[simp] def n16 (G : KT6 R) (v1 v2 v3 v4 v5 v6 : GV) (h : Heap) : Option R := (kfa 2 v5).bind fun v36 => (kload1 h v36).bind fun v37 => (klen v37).bind fun v38 => (kbin .lss v6 v38).bind fun v39 => kcond v39 (n17 k G v1 v2 v3 v4 v5 v6 h) (G (.ext 2) v1 v2 v3 v4 v5 v6 h)
theorem n16_eq (G : KT6 R) (σ : GS) (h : Heap) : KC k 64 c16 σ h (fun x σ h => G x (σ 1) (σ 2) (σ 3) (σ 4) (σ 5) (σ 6) h) = n16 k G (σ 1) (σ 2) (σ 3) (σ 4) (σ 5) (σ 6) h := (kseq (a := c21) (b := c17) rfl (fun σ h => n17_eq k G σ h)).trans (by kernel_rfl)
def l15 {R : Type} (k : Nat) (G : KT4 R) : Nat → GV → GV → GV → GV → GV → GV → Heap → Option R
  | 0, _, _, _, _, _, _, _ => none
  | r + 1, v1, v2, v3, v4, v5, v6, h => n16 k (fun x v1 v2 v3 v4 v5 v6 h => kx x (l15 k G r v1 v2 v3 v4 v5 v6 h) (G x v1 v2 v3 v4 h)) v1 v2 v3 v4 v5 v6 h
theorem l15_eq {R : Type} (k : Nat) (G : KT4 R) : ∀ (r : Nat) (σ : GS) (h : Heap), kloop (fun σ h K => KC k 64 c16 σ h K) r σ h (fun x σ h => G x (σ 1) (σ 2) (σ 3) (σ 4) h) = l15 k G r (σ 1) (σ 2) (σ 3) (σ 4) (σ 5) (σ 6) h
  | 0, _, _ => rfl
  | r + 1, σ, h => (kloop_eq (fun σ h => l15_eq k G r σ h)).trans (n16_eq k (fun x v1 v2 v3 v4 v5 v6 h => kx x (l15 k G r v1 v2 v3 v4 v5 v6 h) (G x v1 v2 v3 v4 h)) σ h)
@[simp] def n15 (G : KT4 R) (v1 v2 v3 v4 v5 v6 : GV) (h : Heap) : Option R := l15 k G k v1 v2 v3 v4 v5 v6 h
theorem n15_eq (G : KT4 R) (σ : GS) (h : Heap) : KC k 64 c15 σ h (fun x σ h => G x (σ 1) (σ 2) (σ 3) (σ 4) h) = n15 k G (σ 1) (σ 2) (σ 3) (σ 4) (σ 5) (σ 6) h := (kloopc_eq (a := c16) rfl).trans (l15_eq k G k σ h)
@[simp] def n14 (G : KT4 R) (v1 v2 v3 v4 v5 v6 : GV) (h : Heap) : Option R := n15 k (fun x v1 v2 v3 v4 h => kb 2 x fun x => G x v1 v2 v3 v4 h) v1 v2 v3 v4 v5 v6 h
theorem n14_eq (G : KT4 R) (σ : GS) (h : Heap) : KC k 64 c14 σ h (fun x σ h => G x (σ 1) (σ 2) (σ 3) (σ 4) h) = n14 k G (σ 1) (σ 2) (σ 3) (σ 4) (σ 5) (σ 6) h := (kblock_eq (a := c15) rfl).trans (n15_eq k (fun x v1 v2 v3 v4 h => kb 2 x fun x => G x v1 v2 v3 v4 h) σ h)
noncomputable def c22 : Code := cL c13
@[simp] def n13 (G : KT4 R) (v1 v2 v3 v4 v5 : GV) (h : Heap) : Option R := n14 k G v1 v2 v3 v4 v5 (.int .i64 0) h
theorem n13_eq (G : KT4 R) (σ : GS) (h : Heap) : KC k 64 c13 σ h (fun x σ h => G x (σ 1) (σ 2) (σ 3) (σ 4) h) = n13 k G (σ 1) (σ 2) (σ 3) (σ 4) (σ 5) h := (kseq (a := c22) (b := c14) rfl (fun σ h => n14_eq k G σ h)).trans (by kernel_rfl)
noncomputable def c23 : Code := cL c12
@[simp] def n12 (G : KT4 R) (v1 v2 v3 v4 v5 : GV) (h : Heap) : Option R := (kfa 0 v5).bind fun v26 => (kload1 h v26).bind fun v27 => (kfa 1 v5).bind fun v28 => (kload1 h v28).bind fun v29 => (kfa 2 v5).bind fun v30 => (kload1 h v30).bind fun v31 => (klen v31).bind fun v32 => (gfill (fun i => some (i * 1, 1)) (zeros [(.int .i64 0)] 3) [(0, v27), (1, v29), (2, v32)]).bind fun c => kbs 3 1 c h fun v33 h => (kapp [(.int .i64 0)] 1 8 v3 v33 h).bind fun r => kr r fun v34 h => n13 k G v1 v2 v34 v4 v5 h
theorem n12_eq (G : KT4 R) (σ : GS) (h : Heap) : KC k 64 c12 σ h (fun x σ h => G x (σ 1) (σ 2) (σ 3) (σ 4) h) = n12 k G (σ 1) (σ 2) (σ 3) (σ 4) (σ 5) h := (kseq (a := c23) (b := c13) rfl (fun σ h => n13_eq k G σ h)).trans (by kernel_rfl)
noncomputable def c24 : Code := cL c11
@[simp] def n11 (G : KT4 R) (v1 v2 v3 v4 : GV) (h : Heap) : Option R := (kfa 2 v1).bind fun v20 => (kload1 h v20).bind fun v21 => (kia 3 v21 v4).bind fun v23 => (kloadA 3 h v23).bind fun v24 => kalloc [(.int .i64 0), (.int .i64 0), .nils] h fun v5 h => (kstore 3 h v5 v24).bind fun h => n12 k G v1 v2 v3 v4 v5 h
theorem n11_eq (G : KT4 R) (σ : GS) (h : Heap) : KC k 64 c11 σ h (fun x σ h => G x (σ 1) (σ 2) (σ 3) (σ 4) h) = n11 k G (σ 1) (σ 2) (σ 3) (σ 4) h := (kseq (a := c24) (b := c12) rfl (fun σ h => n12_eq k G σ h)).trans (by kernel_rfl)
@[simp] def n10 (G : KT4 R) (v1 v2 v3 v4 : GV) (h : Heap) : Option R := n11 k (fun x v1 v2 v3 v4 h => kb 1 x fun x => G x v1 v2 v3 v4 h) v1 v2 v3 v4 h
theorem n10_eq (G : KT4 R) (σ : GS) (h : Heap) : KC k 64 c10 σ h (fun x σ h => G x (σ 1) (σ 2) (σ 3) (σ 4) h) = n10 k G (σ 1) (σ 2) (σ 3) (σ 4) h := (kblock_eq (a := c11) rfl).trans (n11_eq k (fun x v1 v2 v3 v4 h => kb 1 x fun x => G x v1 v2 v3 v4 h) σ h)
@[simp] def n8 (G : KT4 R) (v1 v2 v3 v4 : GV) (h : Heap) : Option R := n10 k (fun x v1 v2 v3 v4 h => kx x (n9 k G v1 v2 v3 v4 h) (G x v1 v2 v3 v4 h)) v1 v2 v3 v4 h
theorem n8_eq (G : KT4 R) (σ : GS) (h : Heap) : KC k 64 c8 σ h (fun x σ h => G x (σ 1) (σ 2) (σ 3) (σ 4) h) = n8 k G (σ 1) (σ 2) (σ 3) (σ 4) h := (kseq (b := c9) rfl (fun σ h => n9_eq k G σ h)).trans (n10_eq k (fun x v1 v2 v3 v4 h => kx x (n9 k G v1 v2 v3 v4 h) (G x v1 v2 v3 v4 h)) σ h)
noncomputable def c25 : Code := cL c7
@[simp] def n7 (G : KT4 R) (v1 v2 v3 v4 : GV) (h : Heap) : Option R := (kfa 2 v1).bind fun v14 => (kload1 h v14).bind fun v15 => (klen v15).bind fun v16 => (kbin .lss v4 v16).bind fun v17 => kcond v17 (n8 k G v1 v2 v3 v4 h) (G (.ext 0) v1 v2 v3 v4 h)
theorem n7_eq (G : KT4 R) (σ : GS) (h : Heap) : KC k 64 c7 σ h (fun x σ h => G x (σ 1) (σ 2) (σ 3) (σ 4) h) = n7 k G (σ 1) (σ 2) (σ 3) (σ 4) h := (kseq (a := c25) (b := c8) rfl (fun σ h => n8_eq k G σ h)).trans (by kernel_rfl)
def l6 {R : Type} (k : Nat) (G : KT2 R) : Nat → GV → GV → GV → GV → Heap → Option R
  | 0, _, _, _, _, _ => none
  | r + 1, v1, v2, v3, v4, h => n7 k (fun x v1 v2 v3 v4 h => kx x (l6 k G r v1 v2 v3 v4 h) (G x v2 v3 h)) v1 v2 v3 v4 h
theorem l6_eq {R : Type} (k : Nat) (G : KT2 R) : ∀ (r : Nat) (σ : GS) (h : Heap), kloop (fun σ h K => KC k 64 c7 σ h K) r σ h (fun x σ h => G x (σ 2) (σ 3) h) = l6 k G r (σ 1) (σ 2) (σ 3) (σ 4) h
  | 0, _, _ => rfl
  | r + 1, σ, h => (kloop_eq (fun σ h => l6_eq k G r σ h)).trans (n7_eq k (fun x v1 v2 v3 v4 h => kx x (l6 k G r v1 v2 v3 v4 h) (G x v2 v3 h)) σ h)
@[simp] def n6 (G : KT2 R) (v1 v2 v3 v4 : GV) (h : Heap) : Option R := l6 k G k v1 v2 v3 v4 h
theorem n6_eq (G : KT2 R) (σ : GS) (h : Heap) : KC k 64 c6 σ h (fun x σ h => G x (σ 2) (σ 3) h) = n6 k G (σ 1) (σ 2) (σ 3) (σ 4) h := (kloopc_eq (a := c7) rfl).trans (l6_eq k G k σ h)
@[simp] def n5 (G : KT2 R) (v1 v2 v3 v4 : GV) (h : Heap) : Option R := n6 k (fun x v2 v3 h => kb 0 x fun x => G x v2 v3 h) v1 v2 v3 v4 h
theorem n5_eq (G : KT2 R) (σ : GS) (h : Heap) : KC k 64 c5 σ h (fun x σ h => G x (σ 2) (σ 3) h) = n5 k G (σ 1) (σ 2) (σ 3) (σ 4) h := (kblock_eq (a := c6) rfl).trans (n6_eq k (fun x v2 v3 h => kb 0 x fun x => G x v2 v3 h) σ h)
noncomputable def c26 : Code := cL c4
@[simp] def n4 (G : KT2 R) (v1 v2 v3 : GV) (h : Heap) : Option R := n5 k G v1 v2 v3 (.int .i64 0) h
theorem n4_eq (G : KT2 R) (σ : GS) (h : Heap) : KC k 64 c4 σ h (fun x σ h => G x (σ 2) (σ 3) h) = n4 k G (σ 1) (σ 2) (σ 3) h := (kseq (a := c26) (b := c5) rfl (fun σ h => n5_eq k G σ h)).trans (by kernel_rfl)
@[simp] def n2 (G : KT1 R) (v1 v2 v3 : GV) (h : Heap) : Option R := n4 k (fun x v2 v3 h => kx x (n3 k G v3 h) (G x v2 h)) v1 v2 v3 h
theorem n2_eq (G : KT1 R) (σ : GS) (h : Heap) : KC k 64 c2 σ h (fun x σ h => G x (σ 2) h) = n2 k G (σ 1) (σ 2) (σ 3) h := (kseq (b := c3) rfl (fun σ h => n3_eq k G σ h)).trans (n4_eq k (fun x v2 v3 h => kx x (n3 k G v3 h) (G x v2 h)) σ h)
noncomputable def c27 : Code := cL c1
@[simp] def n1 (G : KT1 R) (v1 v2 : GV) (h : Heap) : Option R := (kfa 0 v1).bind fun v8 => (kload1 h v8).bind fun v9 => (kfa 1 v1).bind fun v10 => (kload1 h v10).bind fun v11 => (gfill (fun i => some (i * 1, 1)) (zeros [(.int .i64 0)] 2) [(0, v9), (1, v11)]).bind fun c => kbs 2 1 c h fun v12 h => n2 k G v1 v2 v12 h
theorem n1_eq (G : KT1 R) (σ : GS) (h : Heap) : KC k 64 c1 σ h (fun x σ h => G x (σ 2) h) = n1 k G (σ 1) (σ 2) h := (kseq (a := c27) (b := c2) rfl (fun σ h => n2_eq k G σ h)).trans (by kernel_rfl)
noncomputable def c28 : Code := cL c0
@[simp] def n0 (G : KT1 R) (v0 : GV) (h : Heap) : Option R := kbox v0 h fun v1 h => n1 k G v1 .nils h
theorem n0_eq (G : KT1 R) (σ : GS) (h : Heap) : KC k 64 c0 σ h (fun x σ h => G x (σ 2) h) = n0 k G (σ 0) h := (kseq (a := c28) (b := c1) rfl (fun σ h => n1_eq k G σ h)).trans (by kernel_rfl)
def run {R : Type} (k : Nat) (a0 : GV) (h : Heap) (fin : GV → Heap → Option R) : Option R := n0 k (fun x v2 h => kend x (fin v2 h)) a0 h
theorem run_eq {R : Type} (k : Nat) (a0 : GV) (h : Heap) (fin : GV → Heap → Option R) : kfun PP cfg NN HH k fn.spec_l10Numbers [a0] h fin = run k a0 h fin := (kfun_eq (nt := 64) (c := c0) (show PP.funcs[fn.spec_l10Numbers]? = some Tryd.f157 by kernel_rfl) (by kernel_rfl) (by kernel_rfl) (fun x σ h => by cases x <;> kernel_rfl)).trans (n0_eq k (fun x v2 h => kend x (fin v2 h)) _ h)
theorem gives {k : Nat} {a0 : GV} {v : GV} (e : run k a0 [] finN = some v) : NN fn.spec_l10Numbers [a0] = some v := nω_of (by kernel_rfl) ((run_eq k a0 [] finN).trans e)
end S.spec_l10Numbers
/-! spec_l10Flags -/
namespace S.spec_l10Flags
noncomputable def c0 : Code := bodyOf Tryd.f196
@[simp] def n0 {R : Type} (k : Nat) (G : KT1 R) (v0 : GV) (h : Heap) : Option R := kbox v0 h fun v1 h => (kfa 2 v1).bind fun v3 => (kload1 h v3).bind fun v4 => (kN NN fn.spec_l3Flag [v4, (.int .i64 1), (.int .i64 0)] h).bind fun v5 => (kfa 3 v1).bind fun v6 => (kload1 h v6).bind fun v7 => (kN NN fn.spec_l3Flag [v7, (.int .i64 2), (.int .i64 0)] h).bind fun v8 => (kbin .add v5 v8).bind fun v9 => (kfa 4 v1).bind fun v10 => (kload1 h v10).bind fun v11 => (kN NN fn.spec_l3Flag [v11, (.int .i64 4), (.int .i64 0)] h).bind fun v12 => (kbin .add v9 v12).bind fun v13 => G .ret v13 h
theorem n0_eq (G : KT1 R) (σ : GS) (h : Heap) : KC k 14 c0 σ h (fun x σ h => G x (σ 2) h) = n0 k G (σ 0) h := by kernel_rfl
def run {R : Type} (k : Nat) (a0 : GV) (h : Heap) (fin : GV → Heap → Option R) : Option R := n0 k (fun x v2 h => kend x (fin v2 h)) a0 h
theorem run_eq {R : Type} (k : Nat) (a0 : GV) (h : Heap) (fin : GV → Heap → Option R) : kfun PP cfg NN HH k fn.spec_l10Flags [a0] h fin = run k a0 h fin := (kfun_eq (nt := 14) (c := c0) (show PP.funcs[fn.spec_l10Flags]? = some Tryd.f196 by kernel_rfl) (by kernel_rfl) (by kernel_rfl) (fun x σ h => by cases x <;> kernel_rfl)).trans (n0_eq k (fun x v2 h => kend x (fin v2 h)) _ h)
theorem gives {k : Nat} {a0 : GV} {v : GV} (e : run k a0 [] finN = some v) : NN fn.spec_l10Flags [a0] = some v := nω_of (by kernel_rfl) ((run_eq k a0 [] finN).trans e)
end S.spec_l10Flags
/-! spec_l3Flag -/
namespace S.spec_l3Flag
noncomputable def c0 : Code := bodyOf Tryd.f230
@[simp] def n0 {R : Type} (k : Nat) (G : KT1 R) (v0 v1 v2 : GV) (h : Heap) : Option R := kcond v0 (G .ret v1 h) (G .ret v2 h)
theorem n0_eq (G : KT1 R) (σ : GS) (h : Heap) : KC k 10 c0 σ h (fun x σ h => G x (σ 6) h) = n0 k G (σ 0) (σ 1) (σ 2) h := by kernel_rfl
def run {R : Type} (k : Nat) (a0 : GV) (a1 : GV) (a2 : GV) (h : Heap) (fin : GV → Heap → Option R) : Option R := n0 k (fun x v6 h => kend x (fin v6 h)) a0 a1 a2 h
theorem run_eq {R : Type} (k : Nat) (a0 : GV) (a1 : GV) (a2 : GV) (h : Heap) (fin : GV → Heap → Option R) : kfun PP cfg NN HH k fn.spec_l3Flag [a0, a1, a2] h fin = run k a0 a1 a2 h fin := (kfun_eq (nt := 10) (c := c0) (show PP.funcs[fn.spec_l3Flag]? = some Tryd.f230 by kernel_rfl) (by kernel_rfl) (by kernel_rfl) (fun x σ h => by cases x <;> kernel_rfl)).trans (n0_eq k (fun x v6 h => kend x (fin v6 h)) _ h)
theorem gives {k : Nat} {a0 : GV} {a1 : GV} {a2 : GV} {v : GV} (e : run k a0 a1 a2 [] finN = some v) : NN fn.spec_l3Flag [a0, a1, a2] = some v := nω_of (by kernel_rfl) ((run_eq k a0 a1 a2 [] finN).trans e)
end S.spec_l3Flag
/-! spec_StyleOk -/
namespace S.spec_StyleOk
noncomputable def c0 : Code := bodyOf Tryd.f118
noncomputable def c1 : Code := cR c0
noncomputable def c2 : Code := cR c1
@[simp] def n2 {R : Type} (k : Nat) (G : KT1 R) (v2 : GV) (h : Heap) : Option R := G .ret v2 h
theorem n2_eq (G : KT1 R) (σ : GS) (h : Heap) : KC k 11 c2 σ h (fun x σ h => G x (σ 2) h) = n2 k G (σ 2) h := by kernel_rfl
noncomputable def c3 : Code := cL c1
noncomputable def o3 : Array Oper := cO c3
@[simp] def g3_2 {R : Type} (k : Nat) (G : KT1 R) (v6 v9 : GV) (h : Heap) : Option R := (kpick v6 v9 (.bool false)).bind fun v10 => G .nrm v10 h
theorem g3_2_eq (G : KT1 R) (σ : GS) (h : Heap) : kgroups PP cfg NN HH 11 o3 [(none, [7, 8])] σ h (fun σ h => G .nrm (σ 2) h) = g3_2 k G (σ 6) (σ 9) h := by kernel_rfl
@[simp] def g3_1 (G : KT1 R) (v1 v6 : GV) (h : Heap) : Option R := bif tr true v6 then (kfa 1 v1).bind fun v7 => (kload1 h v7).bind fun v8 => (kN NN fn.spec_l1In [v8, (.int .i64 0), (.int .i64 8)] h).bind fun v9 => g3_2 k G v6 v9 h else g3_2 k G v6 .un h
theorem g3_1_eq (G : KT1 R) (σ : GS) (h : Heap) : kgroups PP cfg NN HH 11 o3 [(some (3, true), [4, 5, 6]), (none, [7, 8])] σ h (fun σ h => G .nrm (σ 2) h) = g3_1 k G (σ 1) (σ 6) h := (kgroups_cons (fun σ h => g3_2_eq k G σ h)).trans (by kernel_rfl)
@[simp] def g3_0 (G : KT1 R) (v1 : GV) (h : Heap) : Option R := (kfa 0 v1).bind fun v3 => (kload1 h v3).bind fun v4 => (kN NN fn.spec_l1In [v4, (.int .i64 0), (.int .i64 8)] h).bind fun v5 => g3_1 k G v1 v5 h
theorem g3_0_eq (G : KT1 R) (σ : GS) (h : Heap) : kgroups PP cfg NN HH 11 o3 [(none, [0, 1, 2, 3]), (some (3, true), [4, 5, 6]), (none, [7, 8])] σ h (fun σ h => G .nrm (σ 2) h) = g3_0 k G (σ 1) h := (kgroups_cons (fun σ h => g3_1_eq k G σ h)).trans (by kernel_rfl)
@[simp] def n3 (G : KT1 R) (v1 : GV) (h : Heap) : Option R := g3_0 k G v1 h
theorem n3_eq (G : KT1 R) (σ : GS) (h : Heap) : KC k 11 c3 σ h (fun x σ h => G x (σ 2) h) = n3 k G (σ 1) h := (kregion_eq (id := 1) (draw := false) (ops := o3) (gs := [(none, [0, 1, 2, 3]), (some (3, true), [4, 5, 6]), (none, [7, 8])]) (by kernel_rfl) (by kernel_rfl) (by kernel_rfl)).trans (g3_0_eq k G σ h)
@[simp] def n1 (G : KT1 R) (v1 : GV) (h : Heap) : Option R := n3 k (fun x v2 h => kx x (n2 k G v2 h) (G x v2 h)) v1 h
theorem n1_eq (G : KT1 R) (σ : GS) (h : Heap) : KC k 11 c1 σ h (fun x σ h => G x (σ 2) h) = n1 k G (σ 1) h := (kseq (b := c2) rfl (fun σ h => n2_eq k G σ h)).trans (n3_eq k (fun x v2 h => kx x (n2 k G v2 h) (G x v2 h)) σ h)
noncomputable def c4 : Code := cL c0
@[simp] def n0 (G : KT1 R) (v0 : GV) (h : Heap) : Option R := kbox v0 h fun v1 h => n1 k G v1 h
theorem n0_eq (G : KT1 R) (σ : GS) (h : Heap) : KC k 11 c0 σ h (fun x σ h => G x (σ 2) h) = n0 k G (σ 0) h := (kseq (a := c4) (b := c1) rfl (fun σ h => n1_eq k G σ h)).trans (by kernel_rfl)
def run {R : Type} (k : Nat) (a0 : GV) (h : Heap) (fin : GV → Heap → Option R) : Option R := n0 k (fun x v2 h => kend x (fin v2 h)) a0 h
theorem run_eq {R : Type} (k : Nat) (a0 : GV) (h : Heap) (fin : GV → Heap → Option R) : kfun PP cfg NN HH k fn.spec_StyleOk [a0] h fin = run k a0 h fin := (kfun_eq (nt := 11) (c := c0) (show PP.funcs[fn.spec_StyleOk]? = some Tryd.f118 by kernel_rfl) (by kernel_rfl) (by kernel_rfl) (fun x σ h => by cases x <;> kernel_rfl)).trans (n0_eq k (fun x v2 h => kend x (fin v2 h)) _ h)
theorem gives {k : Nat} {a0 : GV} {v : GV} (e : run k a0 [] finN = some v) : NN fn.spec_StyleOk [a0] = some v := nω_of (by kernel_rfl) ((run_eq k a0 [] finN).trans e)
end S.spec_StyleOk
/-! impl_StyleOk -/
namespace S.impl_StyleOk
noncomputable def c0 : Code := bodyOf Tryd.f130
noncomputable def c1 : Code := cR c0
noncomputable def c2 : Code := cR c1
@[simp] def n2 {R : Type} (k : Nat) (G : KT1 R) (v2 : GV) (h : Heap) : Option R := G .ret v2 h
theorem n2_eq (G : KT1 R) (σ : GS) (h : Heap) : KC k 11 c2 σ h (fun x σ h => G x (σ 2) h) = n2 k G (σ 2) h := by kernel_rfl
noncomputable def c3 : Code := cL c1
noncomputable def o3 : Array Oper := cO c3
@[simp] def g3_2 {R : Type} (k : Nat) (G : KT1 R) (v6 v9 : GV) (h : Heap) : Option R := (kpick v6 v9 (.bool false)).bind fun v10 => G .nrm v10 h
theorem g3_2_eq (G : KT1 R) (σ : GS) (h : Heap) : kgroups PP cfg NN HH 11 o3 [(none, [7, 8])] σ h (fun σ h => G .nrm (σ 2) h) = g3_2 k G (σ 6) (σ 9) h := by kernel_rfl
@[simp] def g3_1 (G : KT1 R) (v1 v6 : GV) (h : Heap) : Option R := bif tr true v6 then (kfa 1 v1).bind fun v7 => (kload1 h v7).bind fun v8 => (kN NN fn.impl_in [v8, (.int .i64 0), (.int .i64 8)] h).bind fun v9 => g3_2 k G v6 v9 h else g3_2 k G v6 .un h
theorem g3_1_eq (G : KT1 R) (σ : GS) (h : Heap) : kgroups PP cfg NN HH 11 o3 [(some (3, true), [4, 5, 6]), (none, [7, 8])] σ h (fun σ h => G .nrm (σ 2) h) = g3_1 k G (σ 1) (σ 6) h := (kgroups_cons (fun σ h => g3_2_eq k G σ h)).trans (by kernel_rfl)
@[simp] def g3_0 (G : KT1 R) (v1 : GV) (h : Heap) : Option R := (kfa 0 v1).bind fun v3 => (kload1 h v3).bind fun v4 => (kN NN fn.impl_in [v4, (.int .i64 0), (.int .i64 8)] h).bind fun v5 => g3_1 k G v1 v5 h
theorem g3_0_eq (G : KT1 R) (σ : GS) (h : Heap) : kgroups PP cfg NN HH 11 o3 [(none, [0, 1, 2, 3]), (some (3, true), [4, 5, 6]), (none, [7, 8])] σ h (fun σ h => G .nrm (σ 2) h) = g3_0 k G (σ 1) h := (kgroups_cons (fun σ h => g3_1_eq k G σ h)).trans (by kernel_rfl)
@[simp] def n3 (G : KT1 R) (v1 : GV) (h : Heap) : Option R := g3_0 k G v1 h
theorem n3_eq (G : KT1 R) (σ : GS) (h : Heap) : KC k 11 c3 σ h (fun x σ h => G x (σ 2) h) = n3 k G (σ 1) h := (kregion_eq (id := 1) (draw := false) (ops := o3) (gs := [(none, [0, 1, 2, 3]), (some (3, true), [4, 5, 6]), (none, [7, 8])]) (by kernel_rfl) (by kernel_rfl) (by kernel_rfl)).trans (g3_0_eq k G σ h)
@[simp] def n1 (G : KT1 R) (v1 : GV) (h : Heap) : Option R := n3 k (fun x v2 h => kx x (n2 k G v2 h) (G x v2 h)) v1 h
theorem n1_eq (G : KT1 R) (σ : GS) (h : Heap) : KC k 11 c1 σ h (fun x σ h => G x (σ 2) h) = n1 k G (σ 1) h := (kseq (b := c2) rfl (fun σ h => n2_eq k G σ h)).trans (n3_eq k (fun x v2 h => kx x (n2 k G v2 h) (G x v2 h)) σ h)
noncomputable def c4 : Code := cL c0
@[simp] def n0 (G : KT1 R) (v0 : GV) (h : Heap) : Option R := kbox v0 h fun v1 h => n1 k G v1 h
theorem n0_eq (G : KT1 R) (σ : GS) (h : Heap) : KC k 11 c0 σ h (fun x σ h => G x (σ 2) h) = n0 k G (σ 0) h := (kseq (a := c4) (b := c1) rfl (fun σ h => n1_eq k G σ h)).trans (by kernel_rfl)
def run {R : Type} (k : Nat) (a0 : GV) (h : Heap) (fin : GV → Heap → Option R) : Option R := n0 k (fun x v2 h => kend x (fin v2 h)) a0 h
theorem run_eq {R : Type} (k : Nat) (a0 : GV) (h : Heap) (fin : GV → Heap → Option R) : kfun PP cfg NN HH k fn.impl_StyleOk [a0] h fin = run k a0 h fin := (kfun_eq (nt := 11) (c := c0) (show PP.funcs[fn.impl_StyleOk]? = some Tryd.f130 by kernel_rfl) (by kernel_rfl) (by kernel_rfl) (fun x σ h => by cases x <;> kernel_rfl)).trans (n0_eq k (fun x v2 h => kend x (fin v2 h)) _ h)
theorem gives {k : Nat} {a0 : GV} {v : GV} (e : run k a0 [] finN = some v) : NN fn.impl_StyleOk [a0] = some v := nω_of (by kernel_rfl) ((run_eq k a0 [] finN).trans e)
end S.impl_StyleOk
/-! slices_ContainsFunc_int64 -/
namespace S.slices_ContainsFunc_int64
noncomputable def c0 : Code := bodyOf Tryd.f169
@[simp] def n0 {R : Type} (k : Nat) (G : KT1 R) (v0 v1 : GV) (h : Heap) : Option R := (kN NN fn.slices_IndexFunc_int64 [v0, v1] h).bind fun v7 => (kbin .geq v7 (.int .i64 0)).bind fun v8 => G .ret v8 h
theorem n0_eq (G : KT1 R) (σ : GS) (h : Heap) : KC k 9 c0 σ h (fun x σ h => G x (σ 4) h) = n0 k G (σ 0) (σ 1) h := by kernel_rfl
def run {R : Type} (k : Nat) (a0 : GV) (a1 : GV) (h : Heap) (fin : GV → Heap → Option R) : Option R := n0 k (fun x v4 h => kend x (fin v4 h)) a0 a1 h
theorem run_eq {R : Type} (k : Nat) (a0 : GV) (a1 : GV) (h : Heap) (fin : GV → Heap → Option R) : kfun PP cfg NN HH k fn.slices_ContainsFunc_int64 [a0, a1] h fin = run k a0 a1 h fin := (kfun_eq (nt := 9) (c := c0) (show PP.funcs[fn.slices_ContainsFunc_int64]? = some Tryd.f169 by kernel_rfl) (by kernel_rfl) (by kernel_rfl) (fun x σ h => by cases x <;> kernel_rfl)).trans (n0_eq k (fun x v4 h => kend x (fin v4 h)) _ h)
theorem gives {k : Nat} {a0 : GV} {a1 : GV} {v : GV} (e : run k a0 a1 [] finN = some v) : NN fn.slices_ContainsFunc_int64 [a0, a1] = some v := nω_of (by kernel_rfl) ((run_eq k a0 a1 [] finN).trans e)
end S.slices_ContainsFunc_int64
/-! slices_IndexFunc_int64 -/
namespace S.slices_IndexFunc_int64
noncomputable def c0 : Code := bodyOf Tryd.f208
noncomputable def c1 : Code := cR c0
noncomputable def c2 : Code := cR c1
@[simp] def n2 {R : Type} (k : Nat) (G : KT1 R) (h : Heap) : Option R := G .ret (.int .i64 (-1)) h
theorem n2_eq (G : KT1 R) (σ : GS) (h : Heap) : KC k 19 c2 σ h (fun x σ h => G x (σ 4) h) = n2 k G h := by kernel_rfl
noncomputable def c3 : Code := cL c1
noncomputable def c4 : Code := cR c3
noncomputable def c5 : Code := cL c4
noncomputable def c6 : Code := cL c5
noncomputable def c7 : Code := cR c6
noncomputable def c8 : Code := cR c7
noncomputable def c9 : Code := cR c8
@[simp] def n9 {R : Type} (k : Nat) (G : KT5 R) (v0 v1 v4 v7 v8 : GV) (h : Heap) : Option R := (kbin .add v8 (.int .i64 1)).bind fun v18 => G .nrm v0 v1 v4 v7 v18 h
theorem n9_eq (G : KT5 R) (σ : GS) (h : Heap) : KC k 19 c9 σ h (fun x σ h => G x (σ 0) (σ 1) (σ 4) (σ 7) (σ 8) h) = n9 k G (σ 0) (σ 1) (σ 4) (σ 7) (σ 8) h := by kernel_rfl
noncomputable def c10 : Code := cL c8
noncomputable def c11 : Code := cL c10
@[simp] def n11 {R : Type} (k : Nat) (G : KT5 R) (v0 v1 v4 v7 v8 : GV) (h : Heap) : Option R := (kia 1 v0 v8).bind fun v14 => (kload1 h v14).bind fun v15 => kval v1 [v15] h fun v16 h => kcond v16 (G .ret v0 v1 v8 v7 v8 h) (G .nrm v0 v1 v4 v7 v8 h)
theorem n11_eq (G : KT5 R) (σ : GS) (h : Heap) : KC k 19 c11 σ h (fun x σ h => G x (σ 0) (σ 1) (σ 4) (σ 7) (σ 8) h) = n11 k G (σ 0) (σ 1) (σ 4) (σ 7) (σ 8) h := by kernel_rfl
@[simp] def n10 (G : KT5 R) (v0 v1 v4 v7 v8 : GV) (h : Heap) : Option R := n11 k (fun x v0 v1 v4 v7 v8 h => kb 1 x fun x => G x v0 v1 v4 v7 v8 h) v0 v1 v4 v7 v8 h
theorem n10_eq (G : KT5 R) (σ : GS) (h : Heap) : KC k 19 c10 σ h (fun x σ h => G x (σ 0) (σ 1) (σ 4) (σ 7) (σ 8) h) = n10 k G (σ 0) (σ 1) (σ 4) (σ 7) (σ 8) h := (kblock_eq (a := c11) rfl).trans (n11_eq k (fun x v0 v1 v4 v7 v8 h => kb 1 x fun x => G x v0 v1 v4 v7 v8 h) σ h)
@[simp] def n8 (G : KT5 R) (v0 v1 v4 v7 v8 : GV) (h : Heap) : Option R := n10 k (fun x v0 v1 v4 v7 v8 h => kx x (n9 k G v0 v1 v4 v7 v8 h) (G x v0 v1 v4 v7 v8 h)) v0 v1 v4 v7 v8 h
theorem n8_eq (G : KT5 R) (σ : GS) (h : Heap) : KC k 19 c8 σ h (fun x σ h => G x (σ 0) (σ 1) (σ 4) (σ 7) (σ 8) h) = n8 k G (σ 0) (σ 1) (σ 4) (σ 7) (σ 8) h := (kseq (b := c9) rfl (fun σ h => n9_eq k G σ h)).trans (n10_eq k (fun x v0 v1 v4 v7 v8 h => kx x (n9 k G v0 v1 v4 v7 v8 h) (G x v0 v1 v4 v7 v8 h)) σ h)
noncomputable def c12 : Code := cL c7
@[simp] def n7 (G : KT5 R) (v0 v1 v4 v7 v8 v9 : GV) (h : Heap) : Option R := kcond v9 (n8 k G v0 v1 v4 v7 v8 h) (G (.ext 0) v0 v1 v4 v7 v8 h)
theorem n7_eq (G : KT5 R) (σ : GS) (h : Heap) : KC k 19 c7 σ h (fun x σ h => G x (σ 0) (σ 1) (σ 4) (σ 7) (σ 8) h) = n7 k G (σ 0) (σ 1) (σ 4) (σ 7) (σ 8) (σ 9) h := (kseq (a := c12) (b := c8) rfl (fun σ h => n8_eq k G σ h)).trans (by kernel_rfl)
noncomputable def c13 : Code := cL c6
@[simp] def n6 (G : KT5 R) (v0 v1 v4 v7 v8 : GV) (h : Heap) : Option R := (kbin .lss v8 v7).bind fun v9 => n7 k G v0 v1 v4 v7 v8 v9 h
theorem n6_eq (G : KT5 R) (σ : GS) (h : Heap) : KC k 19 c6 σ h (fun x σ h => G x (σ 0) (σ 1) (σ 4) (σ 7) (σ 8) h) = n6 k G (σ 0) (σ 1) (σ 4) (σ 7) (σ 8) h := (kseq (a := c13) (b := c7) rfl (fun σ h => n7_eq k G σ h)).trans (by kernel_rfl)
def l5 {R : Type} (k : Nat) (G : KT1 R) : Nat → GV → GV → GV → GV → GV → Heap → Option R
  | 0, _, _, _, _, _, _ => none
  | r + 1, v0, v1, v4, v7, v8, h => n6 k (fun x v0 v1 v4 v7 v8 h => kx x (l5 k G r v0 v1 v4 v7 v8 h) (G x v4 h)) v0 v1 v4 v7 v8 h
theorem l5_eq {R : Type} (k : Nat) (G : KT1 R) : ∀ (r : Nat) (σ : GS) (h : Heap), kloop (fun σ h K => KC k 19 c6 σ h K) r σ h (fun x σ h => G x (σ 4) h) = l5 k G r (σ 0) (σ 1) (σ 4) (σ 7) (σ 8) h
  | 0, _, _ => rfl
  | r + 1, σ, h => (kloop_eq (fun σ h => l5_eq k G r σ h)).trans (n6_eq k (fun x v0 v1 v4 v7 v8 h => kx x (l5 k G r v0 v1 v4 v7 v8 h) (G x v4 h)) σ h)
@[simp] def n5 (G : KT1 R) (v0 v1 v4 v7 v8 : GV) (h : Heap) : Option R := l5 k G k v0 v1 v4 v7 v8 h
theorem n5_eq (G : KT1 R) (σ : GS) (h : Heap) : KC k 19 c5 σ h (fun x σ h => G x (σ 4) h) = n5 k G (σ 0) (σ 1) (σ 4) (σ 7) (σ 8) h := (kloopc_eq (a := c6) rfl).trans (l5_eq k G k σ h)
@[simp] def n4 (G : KT1 R) (v0 v1 v4 v7 v8 : GV) (h : Heap) : Option R := n5 k (fun x v4 h => kb 0 x fun x => G x v4 h) v0 v1 v4 v7 v8 h
theorem n4_eq (G : KT1 R) (σ : GS) (h : Heap) : KC k 19 c4 σ h (fun x σ h => G x (σ 4) h) = n4 k G (σ 0) (σ 1) (σ 4) (σ 7) (σ 8) h := (kblock_eq (a := c5) rfl).trans (n5_eq k (fun x v4 h => kb 0 x fun x => G x v4 h) σ h)
noncomputable def c14 : Code := cL c3
@[simp] def n3 (G : KT1 R) (v0 v1 v4 : GV) (h : Heap) : Option R := (klen v0).bind fun v7 => n4 k G v0 v1 v4 v7 (.int .i64 0) h
theorem n3_eq (G : KT1 R) (σ : GS) (h : Heap) : KC k 19 c3 σ h (fun x σ h => G x (σ 4) h) = n3 k G (σ 0) (σ 1) (σ 4) h := (kseq (a := c14) (b := c4) rfl (fun σ h => n4_eq k G σ h)).trans (by kernel_rfl)
@[simp] def n1 (G : KT1 R) (v0 v1 v4 : GV) (h : Heap) : Option R := n3 k (fun x v4 h => kx x (n2 k G h) (G x v4 h)) v0 v1 v4 h
theorem n1_eq (G : KT1 R) (σ : GS) (h : Heap) : KC k 19 c1 σ h (fun x σ h => G x (σ 4) h) = n1 k G (σ 0) (σ 1) (σ 4) h := (kseq (b := c2) rfl (fun σ h => n2_eq k G σ h)).trans (n3_eq k (fun x v4 h => kx x (n2 k G h) (G x v4 h)) σ h)
noncomputable def c15 : Code := cL c0
@[simp] def n0 (G : KT1 R) (v0 v1 : GV) (h : Heap) : Option R := n1 k G v0 v1 (.int .i64 0) h
theorem n0_eq (G : KT1 R) (σ : GS) (h : Heap) : KC k 19 c0 σ h (fun x σ h => G x (σ 4) h) = n0 k G (σ 0) (σ 1) h := (kseq (a := c15) (b := c1) rfl (fun σ h => n1_eq k G σ h)).trans (by kernel_rfl)
def run {R : Type} (k : Nat) (a0 : GV) (a1 : GV) (h : Heap) (fin : GV → Heap → Option R) : Option R := n0 k (fun x v4 h => kend x (fin v4 h)) a0 a1 h
theorem run_eq {R : Type} (k : Nat) (a0 : GV) (a1 : GV) (h : Heap) (fin : GV → Heap → Option R) : kfun PP cfg NN HH k fn.slices_IndexFunc_int64 [a0, a1] h fin = run k a0 a1 h fin := (kfun_eq (nt := 19) (c := c0) (show PP.funcs[fn.slices_IndexFunc_int64]? = some Tryd.f208 by kernel_rfl) (by kernel_rfl) (by kernel_rfl) (fun x σ h => by cases x <;> kernel_rfl)).trans (n0_eq k (fun x v4 h => kend x (fin v4 h)) _ h)
theorem gives {k : Nat} {a0 : GV} {a1 : GV} {v : GV} (e : run k a0 a1 [] finN = some v) : NN fn.slices_IndexFunc_int64 [a0, a1] = some v := nω_of (by kernel_rfl) ((run_eq k a0 a1 [] finN).trans e)
end S.slices_IndexFunc_int64
end
end Go.Proofs.YtklhdbkaejbajaaDoor.G
