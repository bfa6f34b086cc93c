/- What these functions do, told for open values, out of the machine with continuations. Printed by a program of this session. -/
import Derived.Test.YtklhdbkaejbajaaDoorSN
import Derived.KernelRfl
namespace Go.Proofs.YtklhdbkaejbajaaDoor.G
open Go.RowKit
set_option linter.unusedVariables false
set_option maxRecDepth 100000
noncomputable section
variable {R : Type} (k : Nat)
/-! spec_ShowEntry -/
namespace S.spec_ShowEntry
noncomputable def c0 : Code := bodyOf Tryd.f19
@[simp] def n0 {R : Type} (k : Nat) (G : KT1 R) (v0 : GV) (h : Heap) : Option R := kbox v0 h fun v1 h => (kloadA 4 h v1).bind fun v3 => (kN NN fn.spec_EntryOk [v3] h).bind fun v4 => (kun .not v4).bind fun v5 => kcond v5 (G .ret (.str { data := #[] }) h) ((kloadA 4 h v1).bind fun v6 => (kN NN fn.spec_l18Show [v6] h).bind fun v7 => G .ret v7 h)
theorem n0_eq (G : KT1 R) (σ : GS) (h : Heap) : KC k 8 c0 σ h (fun x σ h => G x (σ 2) h) = n0 k G (σ 0) h := by kernel_rfl
def run {R : Type} (k : Nat) (a0 : GV) (h : Heap) (fin : GV → Heap → Option R) : Option R := n0 k (fun x v2 h => kend x (fin v2 h)) a0 h
theorem run_eq {R : Type} (k : Nat) (a0 : GV) (h : Heap) (fin : GV → Heap → Option R) : kfun PP cfg NN HH k fn.spec_ShowEntry [a0] h fin = run k a0 h fin := (kfun_eq (nt := 8) (c := c0) (show PP.funcs[fn.spec_ShowEntry]? = some Tryd.f19 by kernel_rfl) (by kernel_rfl) (by kernel_rfl) (fun x σ h => by cases x <;> kernel_rfl)).trans (n0_eq k (fun x v2 h => kend x (fin v2 h)) _ h)
theorem gives {k : Nat} {a0 : GV} {v : GV} (e : run k a0 [] finN = some v) : NN fn.spec_ShowEntry [a0] = some v := nω_of (by kernel_rfl) ((run_eq k a0 [] finN).trans e)
end S.spec_ShowEntry
/-! impl_ShowEntry -/
namespace S.impl_ShowEntry
noncomputable def c0 : Code := bodyOf Tryd.f21
noncomputable def c1 : Code := cR c0
noncomputable def c2 : Code := cR c1
@[simp] def n2 {R : Type} (k : Nat) (G : KT1 R) (v1 : GV) (h : Heap) : Option R := (kfa 1 v1).bind fun v31 => (kload1 h v31).bind fun v32 => (kfa 2 v1).bind fun v33 => (kload1 h v33).bind fun v34 => (gfill (fun i => some (i * 1, 1)) (zeros [(.int .i64 0)] 2) [(0, v32), (1, v34)]).bind fun c => kbs 2 1 c h fun v35 h => (kN NN fn.impl_spaced [v35] h).bind fun v36 => (kbin .add (.str { data := #[115, 105, 122, 101, 32] }) v36).bind fun v37 => G .ret v37 h
theorem n2_eq (G : KT1 R) (σ : GS) (h : Heap) : KC k 38 c2 σ h (fun x σ h => G x (σ 2) h) = n2 k G (σ 1) h := by kernel_rfl
noncomputable def c3 : Code := cL c1
noncomputable def c4 : Code := cL c3
noncomputable def c5 : Code := cR c4
noncomputable def c6 : Code := cL c5
@[simp] def n6 {R : Type} (k : Nat) (G : KT2 R) (v1 : GV) (h : Heap) : Option R := G .ret v1 (.str { data := #[] }) h
theorem n6_eq (G : KT2 R) (σ : GS) (h : Heap) : KC k 38 c6 σ h (fun x σ h => G x (σ 1) (σ 2) h) = n6 k G (σ 1) h := by kernel_rfl
noncomputable def c7 : Code := cR c5
noncomputable def c8 : Code := cR c7
noncomputable def c9 : Code := cL c8
noncomputable def c10 : Code := cR c9
@[simp] def n10 {R : Type} (k : Nat) (G : KT2 R) (v1 v2 : GV) (h : Heap) : Option R := G .ret v1 v2 h
theorem n10_eq (G : KT2 R) (σ : GS) (h : Heap) : KC k 38 c10 σ h (fun x σ h => G x (σ 1) (σ 2) h) = n10 k G (σ 1) (σ 2) h := by kernel_rfl
noncomputable def c11 : Code := cL c9
noncomputable def o11 : Array Oper := cO c11
@[simp] def g11_0 {R : Type} (k : Nat) (G : KT2 R) (v1 : GV) (rs : List Rec) (h : Heap) : Option R := (kfa 1 v1).bind fun v11 => (kload1 h v11).bind fun v12 => (kfa 2 v1).bind fun v13 => (kload1 h v13).bind fun v14 => kold h fun h0 => (gfill (fun i => some (i * 1, 1)) (zeros [(.int .i64 0)] 2) [(0, v12), (1, v14)]).bind fun c => kbs 2 1 c h fun v15 h => krs (rs ++ [⟨4, h0.length, h.length, ⟨[], []⟩⟩]) fun rs => (kN NN fn.impl_spaced [v15] h).bind fun v16 => (kbin .add (.str { data := #[107, 101, 121, 115, 32] }) v16).bind fun v17 => (kbin .add v17 (.str { data := #[32] })).bind fun v18 => (kfa 3 v1).bind fun v19 => kold h fun h0 => (kload1 h v19).bind fun v20 => krs (rs ++ [⟨9, h0.length, h.length, ⟨kblk v19, []⟩⟩]) fun rs => (kN NN fn.impl_hex [v20] h).bind fun v21 => (kbin .add v18 v21).bind fun v22 => bif chk [(4, 9)] rs then G .nrm v1 v22 h else none
theorem g11_0_eq (G : KT2 R) (rs : List Rec) (σ : GS) (h : Heap) : kgroupsD PP cfg NN HH 38 o11 [(4, 9)] [(none, [0, 1, 2, 3, 4, 5, 6, 7, 8, 9, 10, 11, 12])] rs σ h (fun rs σ h => bif chk [(4, 9)] rs then G .nrm (σ 1) (σ 2) h else none) = g11_0 k G (σ 1) rs h := by kernel_rfl
@[simp] def n11 (G : KT2 R) (v1 : GV) (h : Heap) : Option R := g11_0 k G v1 [] h
theorem n11_eq (G : KT2 R) (σ : GS) (h : Heap) : KC k 38 c11 σ h (fun x σ h => G x (σ 1) (σ 2) h) = n11 k G (σ 1) h := (kregionD_eq (id := 4) (draw := true) (ops := o11) (gs := [(none, [0, 1, 2, 3, 4, 5, 6, 7, 8, 9, 10, 11, 12])]) (bad := [(4, 9)]) (by kernel_rfl) (by kernel_rfl) (by kernel_rfl) (by kernel_rfl) (by kernel_rfl)).trans (g11_0_eq k G [] σ h)
@[simp] def n9 (G : KT2 R) (v1 : GV) (h : Heap) : Option R := n11 k (fun x v1 v2 h => kx x (n10 k G v1 v2 h) (G x v1 v2 h)) v1 h
theorem n9_eq (G : KT2 R) (σ : GS) (h : Heap) : KC k 38 c9 σ h (fun x σ h => G x (σ 1) (σ 2) h) = n9 k G (σ 1) h := (kseq (b := c10) rfl (fun σ h => n10_eq k G σ h)).trans (n11_eq k (fun x v1 v2 h => kx x (n10 k G v1 v2 h) (G x v1 v2 h)) σ h)
noncomputable def c12 : Code := cR c8
@[simp] def n12 {R : Type} (k : Nat) (G : KT2 R) (v1 v2 : GV) (h : Heap) : Option R := (kfa 0 v1).bind fun v24 => (kload1 h v24).bind fun v25 => (kbin .eql v25 (.int .i64 2)).bind fun v26 => kcond v26 ((kfa 3 v1).bind fun v27 => (kload1 h v27).bind fun v28 => (kN NN fn.impl_hex [v28] h).bind fun v29 => (kbin .add (.str { data := #[111, 117, 116, 32] }) v29).bind fun v30 => G .ret v1 v30 h) (G .nrm v1 v2 h)
theorem n12_eq (G : KT2 R) (σ : GS) (h : Heap) : KC k 38 c12 σ h (fun x σ h => G x (σ 1) (σ 2) h) = n12 k G (σ 1) (σ 2) h := by kernel_rfl
@[simp] def n8 (G : KT2 R) (v1 v2 v7 : GV) (h : Heap) : Option R := kcond v7 (n9 k G v1 h) (n12 k G v1 v2 h)
theorem n8_eq (G : KT2 R) (σ : GS) (h : Heap) : KC k 38 c8 σ h (fun x σ h => G x (σ 1) (σ 2) h) = n8 k G (σ 1) (σ 2) (σ 7) h := (kcond_eq (a := c9) (b := c12) rfl (by rfl)).trans (congr (congrArg (kcond (σ 7)) (n9_eq k G σ h)) (n12_eq k G σ h))
noncomputable def c13 : Code := cL c7
@[simp] def n7 (G : KT2 R) (v1 v2 : GV) (h : Heap) : Option R := (kfa 0 v1).bind fun v8 => (kload1 h v8).bind fun v9 => (kbin .eql v9 (.int .i64 1)).bind fun v10 => n8 k G v1 v2 v10 h
theorem n7_eq (G : KT2 R) (σ : GS) (h : Heap) : KC k 38 c7 σ h (fun x σ h => G x (σ 1) (σ 2) h) = n7 k G (σ 1) (σ 2) h := (kseq (a := c13) (b := c8) rfl (fun σ h => n8_eq k G σ h)).trans (by kernel_rfl)
@[simp] def n5 (G : KT2 R) (v1 v2 v3 : GV) (h : Heap) : Option R := kcond v3 (n6 k G v1 h) (n7 k G v1 v2 h)
theorem n5_eq (G : KT2 R) (σ : GS) (h : Heap) : KC k 38 c5 σ h (fun x σ h => G x (σ 1) (σ 2) h) = n5 k G (σ 1) (σ 2) (σ 3) h := (kcond_eq (a := c6) (b := c7) rfl (by rfl)).trans (congr (congrArg (kcond (σ 3)) (n6_eq k G σ h)) (n7_eq k G σ h))
noncomputable def c14 : Code := cL c4
@[simp] def n4 (G : KT2 R) (v1 v2 : GV) (h : Heap) : Option R := (kloadA 4 h v1).bind fun v4 => (kN NN fn.impl_EntryOk [v4] h).bind fun v5 => (kun .not v5).bind fun v6 => n5 k G v1 v2 v6 h
theorem n4_eq (G : KT2 R) (σ : GS) (h : Heap) : KC k 38 c4 σ h (fun x σ h => G x (σ 1) (σ 2) h) = n4 k G (σ 1) (σ 2) h := (kseq (a := c14) (b := c5) rfl (fun σ h => n5_eq k G σ h)).trans (by kernel_rfl)
@[simp] def n3 (G : KT2 R) (v1 v2 : GV) (h : Heap) : Option R := n4 k (fun x v1 v2 h => kb 0 x fun x => G x v1 v2 h) v1 v2 h
theorem n3_eq (G : KT2 R) (σ : GS) (h : Heap) : KC k 38 c3 σ h (fun x σ h => G x (σ 1) (σ 2) h) = n3 k G (σ 1) (σ 2) h := (kblock_eq (a := c4) rfl).trans (n4_eq k (fun x v1 v2 h => kb 0 x fun x => G x v1 v2 h) σ h)
@[simp] def n1 (G : KT1 R) (v1 v2 : GV) (h : Heap) : Option R := n3 k (fun x v1 v2 h => kx x (n2 k G v1 h) (G x v2 h)) v1 v2 h
theorem n1_eq (G : KT1 R) (σ : GS) (h : Heap) : KC k 38 c1 σ h (fun x σ h => G x (σ 2) h) = n1 k G (σ 1) (σ 2) h := (kseq (b := c2) rfl (fun σ h => n2_eq k G σ h)).trans (n3_eq k (fun x v1 v2 h => kx x (n2 k G v1 h) (G x v2 h)) σ h)
noncomputable def c15 : Code := cL c0
@[simp] def n0 (G : KT1 R) (v0 : GV) (h : Heap) : Option R := kbox v0 h fun v1 h => n1 k G v1 (.str { data := #[] }) h
theorem n0_eq (G : KT1 R) (σ : GS) (h : Heap) : KC k 38 c0 σ h (fun x σ h => G x (σ 2) h) = n0 k G (σ 0) h := (kseq (a := c15) (b := c1) rfl (fun σ h => n1_eq k G σ h)).trans (by kernel_rfl)
def run {R : Type} (k : Nat) (a0 : GV) (h : Heap) (fin : GV → Heap → Option R) : Option R := n0 k (fun x v2 h => kend x (fin v2 h)) a0 h
theorem run_eq {R : Type} (k : Nat) (a0 : GV) (h : Heap) (fin : GV → Heap → Option R) : kfun PP cfg NN HH k fn.impl_ShowEntry [a0] h fin = run k a0 h fin := (kfun_eq (nt := 38) (c := c0) (show PP.funcs[fn.impl_ShowEntry]? = some Tryd.f21 by kernel_rfl) (by kernel_rfl) (by kernel_rfl) (fun x σ h => by cases x <;> kernel_rfl)).trans (n0_eq k (fun x v2 h => kend x (fin v2 h)) _ h)
theorem gives {k : Nat} {a0 : GV} {v : GV} (e : run k a0 [] finN = some v) : NN fn.impl_ShowEntry [a0] = some v := nω_of (by kernel_rfl) ((run_eq k a0 [] finN).trans e)
end S.impl_ShowEntry
/-! impl_EntryOk -/
namespace S.impl_EntryOk
noncomputable def c0 : Code := bodyOf Tryd.f55
noncomputable def c1 : Code := cR c0
noncomputable def c2 : Code := cR c1
noncomputable def c3 : Code := cR c2
@[simp] def n3 {R : Type} (k : Nat) (G : KT1 R) (v2 : GV) (h : Heap) : Option R := G .ret v2 h
theorem n3_eq (G : KT1 R) (σ : GS) (h : Heap) : KC k 54 c3 σ h (fun x σ h => G x (σ 2) h) = n3 k G (σ 2) h := by kernel_rfl
noncomputable def c4 : Code := cL c2
noncomputable def o4 : Array Oper := cO c4
@[simp] def g4_6 {R : Type} (k : Nat) (G : KT1 R) (v49 v52 : GV) (h : Heap) : Option R := (kpick v49 v52 (.bool false)).bind fun v53 => G .nrm v53 h
theorem g4_6_eq (G : KT1 R) (σ : GS) (h : Heap) : kgroups PP cfg NN HH 54 o4 [(none, [17, 18])] σ h (fun σ h => G .nrm (σ 2) h) = g4_6 k G (σ 49) (σ 52) h := by kernel_rfl
@[simp] def g4_5 (G : KT1 R) (v1 v49 : GV) (h : Heap) : Option R := bif tr true v49 then (kfa 3 v1).bind fun v50 => (kload1 h v50).bind fun v51 => (kbin .eql v51 (.str { data := #[] })).bind fun v52 => g4_6 k G v49 v52 h else g4_6 k G v49 .un h
theorem g4_5_eq (G : KT1 R) (σ : GS) (h : Heap) : kgroups PP cfg NN HH 54 o4 [(some (13, true), [14, 15, 16]), (none, [17, 18])] σ h (fun σ h => G .nrm (σ 2) h) = g4_5 k G (σ 1) (σ 49) h := (kgroups_cons (fun σ h => g4_6_eq k G σ h)).trans (by kernel_rfl)
@[simp] def g4_4 (G : KT1 R) (v1 v44 v47 : GV) (h : Heap) : Option R := (kpick v44 v47 (.bool false)).bind fun v48 => g4_5 k G v1 v48 h
theorem g4_4_eq (G : KT1 R) (σ : GS) (h : Heap) : kgroups PP cfg NN HH 54 o4 [(none, [12, 13]), (some (13, true), [14, 15, 16]), (none, [17, 18])] σ h (fun σ h => G .nrm (σ 2) h) = g4_4 k G (σ 1) (σ 44) (σ 47) h := (kgroups_cons (fun σ h => g4_5_eq k G σ h)).trans (by kernel_rfl)
@[simp] def g4_3 (G : KT1 R) (v1 v44 : GV) (h : Heap) : Option R := bif tr true v44 then (kfa 2 v1).bind fun v45 => (kload1 h v45).bind fun v46 => (kN NN fn.impl_in [v46, (.int .i64 1), (.int .i64 30)] h).bind fun v47 => g4_4 k G v1 v44 v47 h else g4_4 k G v1 v44 .un h
theorem g4_3_eq (G : KT1 R) (σ : GS) (h : Heap) : kgroups PP cfg NN HH 54 o4 [(some (8, true), [9, 10, 11]), (none, [12, 13]), (some (13, true), [14, 15, 16]), (none, [17, 18])] σ h (fun σ h => G .nrm (σ 2) h) = g4_3 k G (σ 1) (σ 44) h := (kgroups_cons (fun σ h => g4_4_eq k G σ h)).trans (by kernel_rfl)
@[simp] def g4_2 (G : KT1 R) (v1 v39 v42 : GV) (h : Heap) : Option R := (kpick v39 v42 (.bool false)).bind fun v43 => g4_3 k G v1 v43 h
theorem g4_2_eq (G : KT1 R) (σ : GS) (h : Heap) : kgroups PP cfg NN HH 54 o4 [(none, [7, 8]), (some (8, true), [9, 10, 11]), (none, [12, 13]), (some (13, true), [14, 15, 16]), (none, [17, 18])] σ h (fun σ h => G .nrm (σ 2) h) = g4_2 k G (σ 1) (σ 39) (σ 42) h := (kgroups_cons (fun σ h => g4_3_eq k G σ h)).trans (by kernel_rfl)
@[simp] def g4_1 (G : KT1 R) (v1 v39 : GV) (h : Heap) : Option R := bif tr true v39 then (kfa 1 v1).bind fun v40 => (kload1 h v40).bind fun v41 => (kN NN fn.impl_in [v41, (.int .i64 1), (.int .i64 60)] h).bind fun v42 => g4_2 k G v1 v39 v42 h else g4_2 k G v1 v39 .un h
theorem g4_1_eq (G : KT1 R) (σ : GS) (h : Heap) : kgroups PP cfg NN HH 54 o4 [(some (3, true), [4, 5, 6]), (none, [7, 8]), (some (8, true), [9, 10, 11]), (none, [12, 13]), (some (13, true), [14, 15, 16]), (none, [17, 18])] σ h (fun σ h => G .nrm (σ 2) h) = g4_1 k G (σ 1) (σ 39) h := (kgroups_cons (fun σ h => g4_2_eq k G σ h)).trans (by kernel_rfl)
@[simp] def g4_0 (G : KT1 R) (v1 : GV) (h : Heap) : Option R := (kfa 0 v1).bind fun v36 => (kload1 h v36).bind fun v37 => (kbin .eql v37 (.int .i64 3)).bind fun v38 => g4_1 k G v1 v38 h
theorem g4_0_eq (G : KT1 R) (σ : GS) (h : Heap) : kgroups PP cfg NN HH 54 o4 [(none, [0, 1, 2, 3]), (some (3, true), [4, 5, 6]), (none, [7, 8]), (some (8, true), [9, 10, 11]), (none, [12, 13]), (some (13, true), [14, 15, 16]), (none, [17, 18])] σ h (fun σ h => G .nrm (σ 2) h) = g4_0 k G (σ 1) h := (kgroups_cons (fun σ h => g4_1_eq k G σ h)).trans (by kernel_rfl)
@[simp] def n4 (G : KT1 R) (v1 : GV) (h : Heap) : Option R := g4_0 k G v1 h
theorem n4_eq (G : KT1 R) (σ : GS) (h : Heap) : KC k 54 c4 σ h (fun x σ h => G x (σ 2) h) = n4 k G (σ 1) h := (kregion_eq (id := 6) (draw := false) (ops := o4) (gs := [(none, [0, 1, 2, 3]), (some (3, true), [4, 5, 6]), (none, [7, 8]), (some (8, true), [9, 10, 11]), (none, [12, 13]), (some (13, true), [14, 15, 16]), (none, [17, 18])]) (by kernel_rfl) (by kernel_rfl) (by kernel_rfl)).trans (g4_0_eq k G σ h)
@[simp] def n2 (G : KT1 R) (v1 : GV) (h : Heap) : Option R := n4 k (fun x v2 h => kx x (n3 k G v2 h) (G x v2 h)) v1 h
theorem n2_eq (G : KT1 R) (σ : GS) (h : Heap) : KC k 54 c2 σ h (fun x σ h => G x (σ 2) h) = n2 k G (σ 1) h := (kseq (b := c3) rfl (fun σ h => n3_eq k G σ h)).trans (n4_eq k (fun x v2 h => kx x (n3 k G v2 h) (G x v2 h)) σ h)
noncomputable def c5 : Code := cL c1
noncomputable def c6 : Code := cR c5
noncomputable def c7 : Code := cL c6
noncomputable def c8 : Code := cR c7
noncomputable def c9 : Code := cL c8
noncomputable def c10 : Code := cR c9
@[simp] def n10 {R : Type} (k : Nat) (G : KT2 R) (v1 v2 : GV) (h : Heap) : Option R := G .ret v1 v2 h
theorem n10_eq (G : KT2 R) (σ : GS) (h : Heap) : KC k 54 c10 σ h (fun x σ h => G x (σ 1) (σ 2) h) = n10 k G (σ 1) (σ 2) h := by kernel_rfl
noncomputable def c11 : Code := cL c9
noncomputable def o11 : Array Oper := cO c11
@[simp] def g11_4 {R : Type} (k : Nat) (G : KT2 R) (v1 v15 v18 : GV) (h : Heap) : Option R := (kpick v15 v18 (.bool false)).bind fun v19 => G .nrm v1 v19 h
theorem g11_4_eq (G : KT2 R) (σ : GS) (h : Heap) : kgroups PP cfg NN HH 54 o11 [(none, [12, 13])] σ h (fun σ h => G .nrm (σ 1) (σ 2) h) = g11_4 k G (σ 1) (σ 15) (σ 18) h := by kernel_rfl
@[simp] def g11_3 (G : KT2 R) (v1 v15 : GV) (h : Heap) : Option R := bif tr true v15 then (kfa 3 v1).bind fun v16 => (kload1 h v16).bind fun v17 => (kN NN fn.impl_isKeys [v17] h).bind fun v18 => g11_4 k G v1 v15 v18 h else g11_4 k G v1 v15 .un h
theorem g11_3_eq (G : KT2 R) (σ : GS) (h : Heap) : kgroups PP cfg NN HH 54 o11 [(some (8, true), [9, 10, 11]), (none, [12, 13])] σ h (fun σ h => G .nrm (σ 1) (σ 2) h) = g11_3 k G (σ 1) (σ 15) h := (kgroups_cons (fun σ h => g11_4_eq k G σ h)).trans (by kernel_rfl)
@[simp] def g11_2 (G : KT2 R) (v1 v10 v13 : GV) (h : Heap) : Option R := (kpick v10 v13 (.bool false)).bind fun v14 => g11_3 k G v1 v14 h
theorem g11_2_eq (G : KT2 R) (σ : GS) (h : Heap) : kgroups PP cfg NN HH 54 o11 [(none, [7, 8]), (some (8, true), [9, 10, 11]), (none, [12, 13])] σ h (fun σ h => G .nrm (σ 1) (σ 2) h) = g11_2 k G (σ 1) (σ 10) (σ 13) h := (kgroups_cons (fun σ h => g11_3_eq k G σ h)).trans (by kernel_rfl)
@[simp] def g11_1 (G : KT2 R) (v1 v10 : GV) (h : Heap) : Option R := bif tr true v10 then (kfa 2 v1).bind fun v11 => (kload1 h v11).bind fun v12 => (kN NN fn.impl_in [v12, (.int .i64 1), (.int .i64 10000)] h).bind fun v13 => g11_2 k G v1 v10 v13 h else g11_2 k G v1 v10 .un h
theorem g11_1_eq (G : KT2 R) (σ : GS) (h : Heap) : kgroups PP cfg NN HH 54 o11 [(some (3, true), [4, 5, 6]), (none, [7, 8]), (some (8, true), [9, 10, 11]), (none, [12, 13])] σ h (fun σ h => G .nrm (σ 1) (σ 2) h) = g11_1 k G (σ 1) (σ 10) h := (kgroups_cons (fun σ h => g11_2_eq k G σ h)).trans (by kernel_rfl)
@[simp] def g11_0 (G : KT2 R) (v1 : GV) (h : Heap) : Option R := (kfa 1 v1).bind fun v7 => (kload1 h v7).bind fun v8 => (kN NN fn.impl_in [v8, (.int .i64 0), (.int .i64 3)] h).bind fun v9 => g11_1 k G v1 v9 h
theorem g11_0_eq (G : KT2 R) (σ : GS) (h : Heap) : kgroups PP cfg NN HH 54 o11 [(none, [0, 1, 2, 3]), (some (3, true), [4, 5, 6]), (none, [7, 8]), (some (8, true), [9, 10, 11]), (none, [12, 13])] σ h (fun σ h => G .nrm (σ 1) (σ 2) h) = g11_0 k G (σ 1) h := (kgroups_cons (fun σ h => g11_1_eq k G σ h)).trans (by kernel_rfl)
@[simp] def n11 (G : KT2 R) (v1 : GV) (h : Heap) : Option R := g11_0 k G v1 h
theorem n11_eq (G : KT2 R) (σ : GS) (h : Heap) : KC k 54 c11 σ h (fun x σ h => G x (σ 1) (σ 2) h) = n11 k G (σ 1) h := (kregion_eq (id := 3) (draw := false) (ops := o11) (gs := [(none, [0, 1, 2, 3]), (some (3, true), [4, 5, 6]), (none, [7, 8]), (some (8, true), [9, 10, 11]), (none, [12, 13])]) (by kernel_rfl) (by kernel_rfl) (by kernel_rfl)).trans (g11_0_eq k G σ h)
@[simp] def n9 (G : KT2 R) (v1 : GV) (h : Heap) : Option R := n11 k (fun x v1 v2 h => kx x (n10 k G v1 v2 h) (G x v1 v2 h)) v1 h
theorem n9_eq (G : KT2 R) (σ : GS) (h : Heap) : KC k 54 c9 σ h (fun x σ h => G x (σ 1) (σ 2) h) = n9 k G (σ 1) h := (kseq (b := c10) rfl (fun σ h => n10_eq k G σ h)).trans (n11_eq k (fun x v1 v2 h => kx x (n10 k G v1 v2 h) (G x v1 v2 h)) σ h)
noncomputable def c12 : Code := cR c8
noncomputable def c13 : Code := cR c12
noncomputable def c14 : Code := cL c13
noncomputable def c15 : Code := cR c14
@[simp] def n15 {R : Type} (k : Nat) (G : KT2 R) (v1 v2 : GV) (h : Heap) : Option R := G .ret v1 v2 h
theorem n15_eq (G : KT2 R) (σ : GS) (h : Heap) : KC k 54 c15 σ h (fun x σ h => G x (σ 1) (σ 2) h) = n15 k G (σ 1) (σ 2) h := by kernel_rfl
noncomputable def c16 : Code := cL c14
noncomputable def o16 : Array Oper := cO c16
@[simp] def g16_4 {R : Type} (k : Nat) (G : KT2 R) (v1 v30 v34 : GV) (h : Heap) : Option R := (kpick v30 v34 (.bool false)).bind fun v35 => G .nrm v1 v35 h
theorem g16_4_eq (G : KT2 R) (σ : GS) (h : Heap) : kgroups PP cfg NN HH 54 o16 [(none, [13, 14])] σ h (fun σ h => G .nrm (σ 1) (σ 2) h) = g16_4 k G (σ 1) (σ 30) (σ 34) h := by kernel_rfl
@[simp] def g16_3 (G : KT2 R) (v1 v30 : GV) (h : Heap) : Option R := bif tr true v30 then (kfa 3 v1).bind fun v31 => (kload1 h v31).bind fun v32 => (klenS v32).bind fun v33 => (kN NN fn.impl_in [v33, (.int .i64 1), (.int .i64 60)] h).bind fun v34 => g16_4 k G v1 v30 v34 h else g16_4 k G v1 v30 .un h
theorem g16_3_eq (G : KT2 R) (σ : GS) (h : Heap) : kgroups PP cfg NN HH 54 o16 [(some (8, true), [9, 10, 11, 12]), (none, [13, 14])] σ h (fun σ h => G .nrm (σ 1) (σ 2) h) = g16_3 k G (σ 1) (σ 30) h := (kgroups_cons (fun σ h => g16_4_eq k G σ h)).trans (by kernel_rfl)
@[simp] def g16_2 (G : KT2 R) (v1 v25 v28 : GV) (h : Heap) : Option R := (kpick v25 v28 (.bool false)).bind fun v29 => g16_3 k G v1 v29 h
theorem g16_2_eq (G : KT2 R) (σ : GS) (h : Heap) : kgroups PP cfg NN HH 54 o16 [(none, [7, 8]), (some (8, true), [9, 10, 11, 12]), (none, [13, 14])] σ h (fun σ h => G .nrm (σ 1) (σ 2) h) = g16_2 k G (σ 1) (σ 25) (σ 28) h := (kgroups_cons (fun σ h => g16_3_eq k G σ h)).trans (by kernel_rfl)
@[simp] def g16_1 (G : KT2 R) (v1 v25 : GV) (h : Heap) : Option R := bif tr true v25 then (kfa 2 v1).bind fun v26 => (kload1 h v26).bind fun v27 => (kbin .eql v27 (.int .i64 0)).bind fun v28 => g16_2 k G v1 v25 v28 h else g16_2 k G v1 v25 .un h
theorem g16_1_eq (G : KT2 R) (σ : GS) (h : Heap) : kgroups PP cfg NN HH 54 o16 [(some (3, true), [4, 5, 6]), (none, [7, 8]), (some (8, true), [9, 10, 11, 12]), (none, [13, 14])] σ h (fun σ h => G .nrm (σ 1) (σ 2) h) = g16_1 k G (σ 1) (σ 25) h := (kgroups_cons (fun σ h => g16_2_eq k G σ h)).trans (by kernel_rfl)
@[simp] def g16_0 (G : KT2 R) (v1 : GV) (h : Heap) : Option R := (kfa 1 v1).bind fun v22 => (kload1 h v22).bind fun v23 => (kbin .eql v23 (.int .i64 0)).bind fun v24 => g16_1 k G v1 v24 h
theorem g16_0_eq (G : KT2 R) (σ : GS) (h : Heap) : kgroups PP cfg NN HH 54 o16 [(none, [0, 1, 2, 3]), (some (3, true), [4, 5, 6]), (none, [7, 8]), (some (8, true), [9, 10, 11, 12]), (none, [13, 14])] σ h (fun σ h => G .nrm (σ 1) (σ 2) h) = g16_0 k G (σ 1) h := (kgroups_cons (fun σ h => g16_1_eq k G σ h)).trans (by kernel_rfl)
@[simp] def n16 (G : KT2 R) (v1 : GV) (h : Heap) : Option R := g16_0 k G v1 h
theorem n16_eq (G : KT2 R) (σ : GS) (h : Heap) : KC k 54 c16 σ h (fun x σ h => G x (σ 1) (σ 2) h) = n16 k G (σ 1) h := (kregion_eq (id := 5) (draw := false) (ops := o16) (gs := [(none, [0, 1, 2, 3]), (some (3, true), [4, 5, 6]), (none, [7, 8]), (some (8, true), [9, 10, 11, 12]), (none, [13, 14])]) (by kernel_rfl) (by kernel_rfl) (by kernel_rfl)).trans (g16_0_eq k G σ h)
@[simp] def n14 (G : KT2 R) (v1 : GV) (h : Heap) : Option R := n16 k (fun x v1 v2 h => kx x (n15 k G v1 v2 h) (G x v1 v2 h)) v1 h
theorem n14_eq (G : KT2 R) (σ : GS) (h : Heap) : KC k 54 c14 σ h (fun x σ h => G x (σ 1) (σ 2) h) = n14 k G (σ 1) h := (kseq (b := c15) rfl (fun σ h => n15_eq k G σ h)).trans (n16_eq k (fun x v1 v2 h => kx x (n15 k G v1 v2 h) (G x v1 v2 h)) σ h)
noncomputable def c17 : Code := cR c13
@[simp] def n17 {R : Type} (k : Nat) (G : KT2 R) (v1 v2 : GV) (h : Heap) : Option R := G .nrm v1 v2 h
theorem n17_eq (G : KT2 R) (σ : GS) (h : Heap) : KC k 54 c17 σ h (fun x σ h => G x (σ 1) (σ 2) h) = n17 k G (σ 1) (σ 2) h := by kernel_rfl
@[simp] def n13 (G : KT2 R) (v1 v2 v20 : GV) (h : Heap) : Option R := kcond v20 (n14 k G v1 h) (n17 k G v1 v2 h)
theorem n13_eq (G : KT2 R) (σ : GS) (h : Heap) : KC k 54 c13 σ h (fun x σ h => G x (σ 1) (σ 2) h) = n13 k G (σ 1) (σ 2) (σ 20) h := (kcond_eq (a := c14) (b := c17) rfl (by rfl)).trans (congr (congrArg (kcond (σ 20)) (n14_eq k G σ h)) (n17_eq k G σ h))
noncomputable def c18 : Code := cL c12
@[simp] def n12 (G : KT2 R) (v1 v2 v4 : GV) (h : Heap) : Option R := (kbin .eql v4 (.int .i64 2)).bind fun v21 => n13 k G v1 v2 v21 h
theorem n12_eq (G : KT2 R) (σ : GS) (h : Heap) : KC k 54 c12 σ h (fun x σ h => G x (σ 1) (σ 2) h) = n12 k G (σ 1) (σ 2) (σ 4) h := (kseq (a := c18) (b := c13) rfl (fun σ h => n13_eq k G σ h)).trans (by kernel_rfl)
@[simp] def n8 (G : KT2 R) (v1 v2 v4 v5 : GV) (h : Heap) : Option R := kcond v5 (n9 k G v1 h) (n12 k G v1 v2 v4 h)
theorem n8_eq (G : KT2 R) (σ : GS) (h : Heap) : KC k 54 c8 σ h (fun x σ h => G x (σ 1) (σ 2) h) = n8 k G (σ 1) (σ 2) (σ 4) (σ 5) h := (kcond_eq (a := c9) (b := c12) rfl (by rfl)).trans (congr (congrArg (kcond (σ 5)) (n9_eq k G σ h)) (n12_eq k G σ h))
noncomputable def c19 : Code := cL c7
@[simp] def n7 (G : KT2 R) (v1 v2 v4 : GV) (h : Heap) : Option R := (kbin .eql v4 (.int .i64 1)).bind fun v6 => n8 k G v1 v2 v4 v6 h
theorem n7_eq (G : KT2 R) (σ : GS) (h : Heap) : KC k 54 c7 σ h (fun x σ h => G x (σ 1) (σ 2) h) = n7 k G (σ 1) (σ 2) (σ 4) h := (kseq (a := c19) (b := c8) rfl (fun σ h => n8_eq k G σ h)).trans (by kernel_rfl)
@[simp] def n6 (G : KT2 R) (v1 v2 v4 : GV) (h : Heap) : Option R := n7 k (fun x v1 v2 h => kb 0 x fun x => G x v1 v2 h) v1 v2 v4 h
theorem n6_eq (G : KT2 R) (σ : GS) (h : Heap) : KC k 54 c6 σ h (fun x σ h => G x (σ 1) (σ 2) h) = n6 k G (σ 1) (σ 2) (σ 4) h := (kblock_eq (a := c7) rfl).trans (n7_eq k (fun x v1 v2 h => kb 0 x fun x => G x v1 v2 h) σ h)
noncomputable def c20 : Code := cL c5
@[simp] def n5 (G : KT2 R) (v1 v2 : GV) (h : Heap) : Option R := (kfa 0 v1).bind fun v3 => (kload1 h v3).bind fun v4 => n6 k G v1 v2 v4 h
theorem n5_eq (G : KT2 R) (σ : GS) (h : Heap) : KC k 54 c5 σ h (fun x σ h => G x (σ 1) (σ 2) h) = n5 k G (σ 1) (σ 2) h := (kseq (a := c20) (b := c6) rfl (fun σ h => n6_eq k G σ h)).trans (by kernel_rfl)
@[simp] def n1 (G : KT1 R) (v1 v2 : GV) (h : Heap) : Option R := n5 k (fun x v1 v2 h => kx x (n2 k G v1 h) (G x v2 h)) v1 v2 h
theorem n1_eq (G : KT1 R) (σ : GS) (h : Heap) : KC k 54 c1 σ h (fun x σ h => G x (σ 2) h) = n1 k G (σ 1) (σ 2) h := (kseq (b := c2) rfl (fun σ h => n2_eq k G σ h)).trans (n5_eq k (fun x v1 v2 h => kx x (n2 k G v1 h) (G x v2 h)) σ h)
noncomputable def c21 : Code := cL c0
@[simp] def n0 (G : KT1 R) (v0 : GV) (h : Heap) : Option R := kbox v0 h fun v1 h => n1 k G v1 (.bool false) h
theorem n0_eq (G : KT1 R) (σ : GS) (h : Heap) : KC k 54 c0 σ h (fun x σ h => G x (σ 2) h) = n0 k G (σ 0) h := (kseq (a := c21) (b := c1) rfl (fun σ h => n1_eq k G σ h)).trans (by kernel_rfl)
def run {R : Type} (k : Nat) (a0 : GV) (h : Heap) (fin : GV → Heap → Option R) : Option R := n0 k (fun x v2 h => kend x (fin v2 h)) a0 h
theorem run_eq {R : Type} (k : Nat) (a0 : GV) (h : Heap) (fin : GV → Heap → Option R) : kfun PP cfg NN HH k fn.impl_EntryOk [a0] h fin = run k a0 h fin := (kfun_eq (nt := 54) (c := c0) (show PP.funcs[fn.impl_EntryOk]? = some Tryd.f55 by kernel_rfl) (by kernel_rfl) (by kernel_rfl) (fun x σ h => by cases x <;> kernel_rfl)).trans (n0_eq k (fun x v2 h => kend x (fin v2 h)) _ h)
theorem gives {k : Nat} {a0 : GV} {v : GV} (e : run k a0 [] finN = some v) : NN fn.impl_EntryOk [a0] = some v := nω_of (by kernel_rfl) ((run_eq k a0 [] finN).trans e)
end S.impl_EntryOk
/-! spec_EntryOk -/
namespace S.spec_EntryOk
noncomputable def c0 : Code := bodyOf Tryd.f73
noncomputable def c1 : Code := cR c0
noncomputable def c2 : Code := cR c1
noncomputable def c3 : Code := cR c2
@[simp] def n3 {R : Type} (k : Nat) (G : KT1 R) (h : Heap) : Option R := G .ret (.bool false) h
theorem n3_eq (G : KT1 R) (σ : GS) (h : Heap) : KC k 59 c3 σ h (fun x σ h => G x (σ 2) h) = n3 k G h := by kernel_rfl
noncomputable def c4 : Code := cL c2
noncomputable def c5 : Code := cR c4
noncomputable def c6 : Code := cL c5
noncomputable def c7 : Code := cR c6
noncomputable def c8 : Code := cL c7
noncomputable def c9 : Code := cR c8
@[simp] def n9 {R : Type} (k : Nat) (G : KT1 R) (v2 : GV) (h : Heap) : Option R := G .ret v2 h
theorem n9_eq (G : KT1 R) (σ : GS) (h : Heap) : KC k 59 c9 σ h (fun x σ h => G x (σ 2) h) = n9 k G (σ 2) h := by kernel_rfl
noncomputable def c10 : Code := cL c8
noncomputable def o10 : Array Oper := cO c10
@[simp] def g10_6 {R : Type} (k : Nat) (G : KT1 R) (v23 v25 : GV) (h : Heap) : Option R := (kpick v23 v25 (.bool false)).bind fun v26 => G .nrm v26 h
theorem g10_6_eq (G : KT1 R) (σ : GS) (h : Heap) : kgroups PP cfg NN HH 59 o10 [(none, [15, 16])] σ h (fun σ h => G .nrm (σ 2) h) = g10_6 k G (σ 23) (σ 25) h := by kernel_rfl
@[simp] def g10_5 (G : KT1 R) (v3 v23 : GV) (h : Heap) : Option R := bif tr true v23 then (kbin .leq v3 (.int .i64 20)).bind fun v25 => g10_6 k G v23 v25 h else g10_6 k G v23 .un h
theorem g10_5_eq (G : KT1 R) (σ : GS) (h : Heap) : kgroups PP cfg NN HH 59 o10 [(some (12, true), [13, 14]), (none, [15, 16])] σ h (fun σ h => G .nrm (σ 2) h) = g10_5 k G (σ 3) (σ 23) h := (kgroups_cons (fun σ h => g10_6_eq k G σ h)).trans (by kernel_rfl)
@[simp] def g10_4 (G : KT1 R) (v3 v19 v21 : GV) (h : Heap) : Option R := (kpick v19 v21 (.bool false)).bind fun v22 => g10_5 k G v3 v22 h
theorem g10_4_eq (G : KT1 R) (σ : GS) (h : Heap) : kgroups PP cfg NN HH 59 o10 [(none, [11, 12]), (some (12, true), [13, 14]), (none, [15, 16])] σ h (fun σ h => G .nrm (σ 2) h) = g10_4 k G (σ 3) (σ 19) (σ 21) h := (kgroups_cons (fun σ h => g10_5_eq k G σ h)).trans (by kernel_rfl)
@[simp] def g10_3 (G : KT1 R) (v3 v19 : GV) (h : Heap) : Option R := bif tr true v19 then (kbin .geq v3 (.int .i64 1)).bind fun v21 => g10_4 k G v3 v19 v21 h else g10_4 k G v3 v19 .un h
theorem g10_3_eq (G : KT1 R) (σ : GS) (h : Heap) : kgroups PP cfg NN HH 59 o10 [(some (8, true), [9, 10]), (none, [11, 12]), (some (12, true), [13, 14]), (none, [15, 16])] σ h (fun σ h => G .nrm (σ 2) h) = g10_3 k G (σ 3) (σ 19) h := (kgroups_cons (fun σ h => g10_4_eq k G σ h)).trans (by kernel_rfl)
@[simp] def g10_2 (G : KT1 R) (v3 v14 v17 : GV) (h : Heap) : Option R := (kpick v14 v17 (.bool false)).bind fun v18 => g10_3 k G v3 v18 h
theorem g10_2_eq (G : KT1 R) (σ : GS) (h : Heap) : kgroups PP cfg NN HH 59 o10 [(none, [7, 8]), (some (8, true), [9, 10]), (none, [11, 12]), (some (12, true), [13, 14]), (none, [15, 16])] σ h (fun σ h => G .nrm (σ 2) h) = g10_2 k G (σ 3) (σ 14) (σ 17) h := (kgroups_cons (fun σ h => g10_3_eq k G σ h)).trans (by kernel_rfl)
@[simp] def g10_1 (G : KT1 R) (v1 v3 v14 : GV) (h : Heap) : Option R := bif tr true v14 then (kfa 2 v1).bind fun v15 => (kload1 h v15).bind fun v16 => (kN NN fn.spec_l1In [v16, (.int .i64 1), (.int .i64 10000)] h).bind fun v17 => g10_2 k G v3 v14 v17 h else g10_2 k G v3 v14 .un h
theorem g10_1_eq (G : KT1 R) (σ : GS) (h : Heap) : kgroups PP cfg NN HH 59 o10 [(some (3, true), [4, 5, 6]), (none, [7, 8]), (some (8, true), [9, 10]), (none, [11, 12]), (some (12, true), [13, 14]), (none, [15, 16])] σ h (fun σ h => G .nrm (σ 2) h) = g10_1 k G (σ 1) (σ 3) (σ 14) h := (kgroups_cons (fun σ h => g10_2_eq k G σ h)).trans (by kernel_rfl)
@[simp] def g10_0 (G : KT1 R) (v1 v3 : GV) (h : Heap) : Option R := (kfa 1 v1).bind fun v11 => (kload1 h v11).bind fun v12 => (kN NN fn.spec_l1In [v12, (.int .i64 0), (.int .i64 3)] h).bind fun v13 => g10_1 k G v1 v3 v13 h
theorem g10_0_eq (G : KT1 R) (σ : GS) (h : Heap) : kgroups PP cfg NN HH 59 o10 [(none, [0, 1, 2, 3]), (some (3, true), [4, 5, 6]), (none, [7, 8]), (some (8, true), [9, 10]), (none, [11, 12]), (some (12, true), [13, 14]), (none, [15, 16])] σ h (fun σ h => G .nrm (σ 2) h) = g10_0 k G (σ 1) (σ 3) h := (kgroups_cons (fun σ h => g10_1_eq k G σ h)).trans (by kernel_rfl)
@[simp] def n10 (G : KT1 R) (v1 v3 : GV) (h : Heap) : Option R := g10_0 k G v1 v3 h
theorem n10_eq (G : KT1 R) (σ : GS) (h : Heap) : KC k 59 c10 σ h (fun x σ h => G x (σ 2) h) = n10 k G (σ 1) (σ 3) h := (kregion_eq (id := 4) (draw := false) (ops := o10) (gs := [(none, [0, 1, 2, 3]), (some (3, true), [4, 5, 6]), (none, [7, 8]), (some (8, true), [9, 10]), (none, [11, 12]), (some (12, true), [13, 14]), (none, [15, 16])]) (by kernel_rfl) (by kernel_rfl) (by kernel_rfl)).trans (g10_0_eq k G σ h)
@[simp] def n8 (G : KT1 R) (v1 v3 : GV) (h : Heap) : Option R := n10 k (fun x v2 h => kx x (n9 k G v2 h) (G x v2 h)) v1 v3 h
theorem n8_eq (G : KT1 R) (σ : GS) (h : Heap) : KC k 59 c8 σ h (fun x σ h => G x (σ 2) h) = n8 k G (σ 1) (σ 3) h := (kseq (b := c9) rfl (fun σ h => n9_eq k G σ h)).trans (n10_eq k (fun x v2 h => kx x (n9 k G v2 h) (G x v2 h)) σ h)
noncomputable def c11 : Code := cR c7
noncomputable def c12 : Code := cR c11
noncomputable def c13 : Code := cL c12
noncomputable def c14 : Code := cR c13
@[simp] def n14 {R : Type} (k : Nat) (G : KT1 R) (v2 : GV) (h : Heap) : Option R := G .ret v2 h
theorem n14_eq (G : KT1 R) (σ : GS) (h : Heap) : KC k 59 c14 σ h (fun x σ h => G x (σ 2) h) = n14 k G (σ 2) h := by kernel_rfl
noncomputable def c15 : Code := cL c13
noncomputable def o15 : Array Oper := cO c15
@[simp] def g15_6 {R : Type} (k : Nat) (G : KT1 R) (v41 v43 : GV) (h : Heap) : Option R := (kpick v41 v43 (.bool false)).bind fun v44 => G .nrm v44 h
theorem g15_6_eq (G : KT1 R) (σ : GS) (h : Heap) : kgroups PP cfg NN HH 59 o15 [(none, [15, 16])] σ h (fun σ h => G .nrm (σ 2) h) = g15_6 k G (σ 41) (σ 43) h := by kernel_rfl
@[simp] def g15_5 (G : KT1 R) (v3 v41 : GV) (h : Heap) : Option R := bif tr true v41 then (kbin .leq v3 (.int .i64 60)).bind fun v43 => g15_6 k G v41 v43 h else g15_6 k G v41 .un h
theorem g15_5_eq (G : KT1 R) (σ : GS) (h : Heap) : kgroups PP cfg NN HH 59 o15 [(some (12, true), [13, 14]), (none, [15, 16])] σ h (fun σ h => G .nrm (σ 2) h) = g15_5 k G (σ 3) (σ 41) h := (kgroups_cons (fun σ h => g15_6_eq k G σ h)).trans (by kernel_rfl)
@[simp] def g15_4 (G : KT1 R) (v3 v37 v39 : GV) (h : Heap) : Option R := (kpick v37 v39 (.bool false)).bind fun v40 => g15_5 k G v3 v40 h
theorem g15_4_eq (G : KT1 R) (σ : GS) (h : Heap) : kgroups PP cfg NN HH 59 o15 [(none, [11, 12]), (some (12, true), [13, 14]), (none, [15, 16])] σ h (fun σ h => G .nrm (σ 2) h) = g15_4 k G (σ 3) (σ 37) (σ 39) h := (kgroups_cons (fun σ h => g15_5_eq k G σ h)).trans (by kernel_rfl)
@[simp] def g15_3 (G : KT1 R) (v3 v37 : GV) (h : Heap) : Option R := bif tr true v37 then (kbin .geq v3 (.int .i64 1)).bind fun v39 => g15_4 k G v3 v37 v39 h else g15_4 k G v3 v37 .un h
theorem g15_3_eq (G : KT1 R) (σ : GS) (h : Heap) : kgroups PP cfg NN HH 59 o15 [(some (8, true), [9, 10]), (none, [11, 12]), (some (12, true), [13, 14]), (none, [15, 16])] σ h (fun σ h => G .nrm (σ 2) h) = g15_3 k G (σ 3) (σ 37) h := (kgroups_cons (fun σ h => g15_4_eq k G σ h)).trans (by kernel_rfl)
@[simp] def g15_2 (G : KT1 R) (v3 v32 v35 : GV) (h : Heap) : Option R := (kpick v32 v35 (.bool false)).bind fun v36 => g15_3 k G v3 v36 h
theorem g15_2_eq (G : KT1 R) (σ : GS) (h : Heap) : kgroups PP cfg NN HH 59 o15 [(none, [7, 8]), (some (8, true), [9, 10]), (none, [11, 12]), (some (12, true), [13, 14]), (none, [15, 16])] σ h (fun σ h => G .nrm (σ 2) h) = g15_2 k G (σ 3) (σ 32) (σ 35) h := (kgroups_cons (fun σ h => g15_3_eq k G σ h)).trans (by kernel_rfl)
@[simp] def g15_1 (G : KT1 R) (v1 v3 v32 : GV) (h : Heap) : Option R := bif tr true v32 then (kfa 2 v1).bind fun v33 => (kload1 h v33).bind fun v34 => (kbin .eql v34 (.int .i64 0)).bind fun v35 => g15_2 k G v3 v32 v35 h else g15_2 k G v3 v32 .un h
theorem g15_1_eq (G : KT1 R) (σ : GS) (h : Heap) : kgroups PP cfg NN HH 59 o15 [(some (3, true), [4, 5, 6]), (none, [7, 8]), (some (8, true), [9, 10]), (none, [11, 12]), (some (12, true), [13, 14]), (none, [15, 16])] σ h (fun σ h => G .nrm (σ 2) h) = g15_1 k G (σ 1) (σ 3) (σ 32) h := (kgroups_cons (fun σ h => g15_2_eq k G σ h)).trans (by kernel_rfl)
@[simp] def g15_0 (G : KT1 R) (v1 v3 : GV) (h : Heap) : Option R := (kfa 1 v1).bind fun v29 => (kload1 h v29).bind fun v30 => (kbin .eql v30 (.int .i64 0)).bind fun v31 => g15_1 k G v1 v3 v31 h
theorem g15_0_eq (G : KT1 R) (σ : GS) (h : Heap) : kgroups PP cfg NN HH 59 o15 [(none, [0, 1, 2, 3]), (some (3, true), [4, 5, 6]), (none, [7, 8]), (some (8, true), [9, 10]), (none, [11, 12]), (some (12, true), [13, 14]), (none, [15, 16])] σ h (fun σ h => G .nrm (σ 2) h) = g15_0 k G (σ 1) (σ 3) h := (kgroups_cons (fun σ h => g15_1_eq k G σ h)).trans (by kernel_rfl)
@[simp] def n15 (G : KT1 R) (v1 v3 : GV) (h : Heap) : Option R := g15_0 k G v1 v3 h
theorem n15_eq (G : KT1 R) (σ : GS) (h : Heap) : KC k 59 c15 σ h (fun x σ h => G x (σ 2) h) = n15 k G (σ 1) (σ 3) h := (kregion_eq (id := 6) (draw := false) (ops := o15) (gs := [(none, [0, 1, 2, 3]), (some (3, true), [4, 5, 6]), (none, [7, 8]), (some (8, true), [9, 10]), (none, [11, 12]), (some (12, true), [13, 14]), (none, [15, 16])]) (by kernel_rfl) (by kernel_rfl) (by kernel_rfl)).trans (g15_0_eq k G σ h)
@[simp] def n13 (G : KT1 R) (v1 v3 : GV) (h : Heap) : Option R := n15 k (fun x v2 h => kx x (n14 k G v2 h) (G x v2 h)) v1 v3 h
theorem n13_eq (G : KT1 R) (σ : GS) (h : Heap) : KC k 59 c13 σ h (fun x σ h => G x (σ 2) h) = n13 k G (σ 1) (σ 3) h := (kseq (b := c14) rfl (fun σ h => n14_eq k G σ h)).trans (n15_eq k (fun x v2 h => kx x (n14 k G v2 h) (G x v2 h)) σ h)
noncomputable def c16 : Code := cR c12
noncomputable def c17 : Code := cR c16
noncomputable def c18 : Code := cL c17
noncomputable def c19 : Code := cR c18
@[simp] def n19 {R : Type} (k : Nat) (G : KT1 R) (v2 : GV) (h : Heap) : Option R := G .ret v2 h
theorem n19_eq (G : KT1 R) (σ : GS) (h : Heap) : KC k 59 c19 σ h (fun x σ h => G x (σ 2) h) = n19 k G (σ 2) h := by kernel_rfl
noncomputable def c20 : Code := cL c18
noncomputable def o20 : Array Oper := cO c20
@[simp] def g20_4 {R : Type} (k : Nat) (G : KT1 R) (v55 v57 : GV) (h : Heap) : Option R := (kpick v55 v57 (.bool false)).bind fun v58 => G .nrm v58 h
theorem g20_4_eq (G : KT1 R) (σ : GS) (h : Heap) : kgroups PP cfg NN HH 59 o20 [(none, [11, 12])] σ h (fun σ h => G .nrm (σ 2) h) = g20_4 k G (σ 55) (σ 57) h := by kernel_rfl
@[simp] def g20_3 (G : KT1 R) (v3 v55 : GV) (h : Heap) : Option R := bif tr true v55 then (kbin .eql v3 (.int .i64 0)).bind fun v57 => g20_4 k G v55 v57 h else g20_4 k G v55 .un h
theorem g20_3_eq (G : KT1 R) (σ : GS) (h : Heap) : kgroups PP cfg NN HH 59 o20 [(some (8, true), [9, 10]), (none, [11, 12])] σ h (fun σ h => G .nrm (σ 2) h) = g20_3 k G (σ 3) (σ 55) h := (kgroups_cons (fun σ h => g20_4_eq k G σ h)).trans (by kernel_rfl)
@[simp] def g20_2 (G : KT1 R) (v3 v50 v53 : GV) (h : Heap) : Option R := (kpick v50 v53 (.bool false)).bind fun v54 => g20_3 k G v3 v54 h
theorem g20_2_eq (G : KT1 R) (σ : GS) (h : Heap) : kgroups PP cfg NN HH 59 o20 [(none, [7, 8]), (some (8, true), [9, 10]), (none, [11, 12])] σ h (fun σ h => G .nrm (σ 2) h) = g20_2 k G (σ 3) (σ 50) (σ 53) h := (kgroups_cons (fun σ h => g20_3_eq k G σ h)).trans (by kernel_rfl)
@[simp] def g20_1 (G : KT1 R) (v1 v3 v50 : GV) (h : Heap) : Option R := bif tr true v50 then (kfa 2 v1).bind fun v51 => (kload1 h v51).bind fun v52 => (kN NN fn.spec_l1In [v52, (.int .i64 1), (.int .i64 30)] h).bind fun v53 => g20_2 k G v3 v50 v53 h else g20_2 k G v3 v50 .un h
theorem g20_1_eq (G : KT1 R) (σ : GS) (h : Heap) : kgroups PP cfg NN HH 59 o20 [(some (3, true), [4, 5, 6]), (none, [7, 8]), (some (8, true), [9, 10]), (none, [11, 12])] σ h (fun σ h => G .nrm (σ 2) h) = g20_1 k G (σ 1) (σ 3) (σ 50) h := (kgroups_cons (fun σ h => g20_2_eq k G σ h)).trans (by kernel_rfl)
@[simp] def g20_0 (G : KT1 R) (v1 v3 : GV) (h : Heap) : Option R := (kfa 1 v1).bind fun v47 => (kload1 h v47).bind fun v48 => (kN NN fn.spec_l1In [v48, (.int .i64 1), (.int .i64 60)] h).bind fun v49 => g20_1 k G v1 v3 v49 h
theorem g20_0_eq (G : KT1 R) (σ : GS) (h : Heap) : kgroups PP cfg NN HH 59 o20 [(none, [0, 1, 2, 3]), (some (3, true), [4, 5, 6]), (none, [7, 8]), (some (8, true), [9, 10]), (none, [11, 12])] σ h (fun σ h => G .nrm (σ 2) h) = g20_0 k G (σ 1) (σ 3) h := (kgroups_cons (fun σ h => g20_1_eq k G σ h)).trans (by kernel_rfl)
@[simp] def n20 (G : KT1 R) (v1 v3 : GV) (h : Heap) : Option R := g20_0 k G v1 v3 h
theorem n20_eq (G : KT1 R) (σ : GS) (h : Heap) : KC k 59 c20 σ h (fun x σ h => G x (σ 2) h) = n20 k G (σ 1) (σ 3) h := (kregion_eq (id := 8) (draw := false) (ops := o20) (gs := [(none, [0, 1, 2, 3]), (some (3, true), [4, 5, 6]), (none, [7, 8]), (some (8, true), [9, 10]), (none, [11, 12])]) (by kernel_rfl) (by kernel_rfl) (by kernel_rfl)).trans (g20_0_eq k G σ h)
@[simp] def n18 (G : KT1 R) (v1 v3 : GV) (h : Heap) : Option R := n20 k (fun x v2 h => kx x (n19 k G v2 h) (G x v2 h)) v1 v3 h
theorem n18_eq (G : KT1 R) (σ : GS) (h : Heap) : KC k 59 c18 σ h (fun x σ h => G x (σ 2) h) = n18 k G (σ 1) (σ 3) h := (kseq (b := c19) rfl (fun σ h => n19_eq k G σ h)).trans (n20_eq k (fun x v2 h => kx x (n19 k G v2 h) (G x v2 h)) σ h)
noncomputable def c21 : Code := cR c17
@[simp] def n21 {R : Type} (k : Nat) (G : KT1 R) (v2 : GV) (h : Heap) : Option R := G .nrm v2 h
theorem n21_eq (G : KT1 R) (σ : GS) (h : Heap) : KC k 59 c21 σ h (fun x σ h => G x (σ 2) h) = n21 k G (σ 2) h := by kernel_rfl
@[simp] def n17 (G : KT1 R) (v1 v2 v3 v45 : GV) (h : Heap) : Option R := kcond v45 (n18 k G v1 v3 h) (n21 k G v2 h)
theorem n17_eq (G : KT1 R) (σ : GS) (h : Heap) : KC k 59 c17 σ h (fun x σ h => G x (σ 2) h) = n17 k G (σ 1) (σ 2) (σ 3) (σ 45) h := (kcond_eq (a := c18) (b := c21) rfl (by rfl)).trans (congr (congrArg (kcond (σ 45)) (n18_eq k G σ h)) (n21_eq k G σ h))
noncomputable def c22 : Code := cL c16
@[simp] def n16 (G : KT1 R) (v1 v2 v3 v8 : GV) (h : Heap) : Option R := (kbin .eql v8 (.int .i64 3)).bind fun v46 => n17 k G v1 v2 v3 v46 h
theorem n16_eq (G : KT1 R) (σ : GS) (h : Heap) : KC k 59 c16 σ h (fun x σ h => G x (σ 2) h) = n16 k G (σ 1) (σ 2) (σ 3) (σ 8) h := (kseq (a := c22) (b := c17) rfl (fun σ h => n17_eq k G σ h)).trans (by kernel_rfl)
@[simp] def n12 (G : KT1 R) (v1 v2 v3 v8 v27 : GV) (h : Heap) : Option R := kcond v27 (n13 k G v1 v3 h) (n16 k G v1 v2 v3 v8 h)
theorem n12_eq (G : KT1 R) (σ : GS) (h : Heap) : KC k 59 c12 σ h (fun x σ h => G x (σ 2) h) = n12 k G (σ 1) (σ 2) (σ 3) (σ 8) (σ 27) h := (kcond_eq (a := c13) (b := c16) rfl (by rfl)).trans (congr (congrArg (kcond (σ 27)) (n13_eq k G σ h)) (n16_eq k G σ h))
noncomputable def c23 : Code := cL c11
@[simp] def n11 (G : KT1 R) (v1 v2 v3 v8 : GV) (h : Heap) : Option R := (kbin .eql v8 (.int .i64 2)).bind fun v28 => n12 k G v1 v2 v3 v8 v28 h
theorem n11_eq (G : KT1 R) (σ : GS) (h : Heap) : KC k 59 c11 σ h (fun x σ h => G x (σ 2) h) = n11 k G (σ 1) (σ 2) (σ 3) (σ 8) h := (kseq (a := c23) (b := c12) rfl (fun σ h => n12_eq k G σ h)).trans (by kernel_rfl)
@[simp] def n7 (G : KT1 R) (v1 v2 v3 v8 v9 : GV) (h : Heap) : Option R := kcond v9 (n8 k G v1 v3 h) (n11 k G v1 v2 v3 v8 h)
theorem n7_eq (G : KT1 R) (σ : GS) (h : Heap) : KC k 59 c7 σ h (fun x σ h => G x (σ 2) h) = n7 k G (σ 1) (σ 2) (σ 3) (σ 8) (σ 9) h := (kcond_eq (a := c8) (b := c11) rfl (by rfl)).trans (congr (congrArg (kcond (σ 9)) (n8_eq k G σ h)) (n11_eq k G σ h))
noncomputable def c24 : Code := cL c6
@[simp] def n6 (G : KT1 R) (v1 v2 v3 v8 : GV) (h : Heap) : Option R := (kbin .eql v8 (.int .i64 1)).bind fun v10 => n7 k G v1 v2 v3 v8 v10 h
theorem n6_eq (G : KT1 R) (σ : GS) (h : Heap) : KC k 59 c6 σ h (fun x σ h => G x (σ 2) h) = n6 k G (σ 1) (σ 2) (σ 3) (σ 8) h := (kseq (a := c24) (b := c7) rfl (fun σ h => n7_eq k G σ h)).trans (by kernel_rfl)
@[simp] def n5 (G : KT1 R) (v1 v2 v3 v8 : GV) (h : Heap) : Option R := n6 k (fun x v2 h => kb 0 x fun x => G x v2 h) v1 v2 v3 v8 h
theorem n5_eq (G : KT1 R) (σ : GS) (h : Heap) : KC k 59 c5 σ h (fun x σ h => G x (σ 2) h) = n5 k G (σ 1) (σ 2) (σ 3) (σ 8) h := (kblock_eq (a := c6) rfl).trans (n6_eq k (fun x v2 h => kb 0 x fun x => G x v2 h) σ h)
noncomputable def c25 : Code := cL c4
@[simp] def n4 (G : KT1 R) (v1 v2 v3 : GV) (h : Heap) : Option R := (kfa 0 v1).bind fun v7 => (kload1 h v7).bind fun v8 => n5 k G v1 v2 v3 v8 h
theorem n4_eq (G : KT1 R) (σ : GS) (h : Heap) : KC k 59 c4 σ h (fun x σ h => G x (σ 2) h) = n4 k G (σ 1) (σ 2) (σ 3) h := (kseq (a := c25) (b := c5) rfl (fun σ h => n5_eq k G σ h)).trans (by kernel_rfl)
@[simp] def n2 (G : KT1 R) (v1 v2 v3 : GV) (h : Heap) : Option R := n4 k (fun x v2 h => kx x (n3 k G h) (G x v2 h)) v1 v2 v3 h
theorem n2_eq (G : KT1 R) (σ : GS) (h : Heap) : KC k 59 c2 σ h (fun x σ h => G x (σ 2) h) = n2 k G (σ 1) (σ 2) (σ 3) h := (kseq (b := c3) rfl (fun σ h => n3_eq k G σ h)).trans (n4_eq k (fun x v2 h => kx x (n3 k G h) (G x v2 h)) σ h)
noncomputable def c26 : Code := cL c1
@[simp] def n1 (G : KT1 R) (v1 v2 : GV) (h : Heap) : Option R := (kfa 3 v1).bind fun v4 => (kload1 h v4).bind fun v5 => (klenS v5).bind fun v6 => n2 k G v1 v2 v6 h
theorem n1_eq (G : KT1 R) (σ : GS) (h : Heap) : KC k 59 c1 σ h (fun x σ h => G x (σ 2) h) = n1 k G (σ 1) (σ 2) h := (kseq (a := c26) (b := c2) rfl (fun σ h => n2_eq k G σ h)).trans (by kernel_rfl)
noncomputable def c27 : Code := cL c0
@[simp] def n0 (G : KT1 R) (v0 : GV) (h : Heap) : Option R := kbox v0 h fun v1 h => n1 k G v1 (.bool false) h
theorem n0_eq (G : KT1 R) (σ : GS) (h : Heap) : KC k 59 c0 σ h (fun x σ h => G x (σ 2) h) = n0 k G (σ 0) h := (kseq (a := c27) (b := c1) rfl (fun σ h => n1_eq k G σ h)).trans (by kernel_rfl)
def run {R : Type} (k : Nat) (a0 : GV) (h : Heap) (fin : GV → Heap → Option R) : Option R := n0 k (fun x v2 h => kend x (fin v2 h)) a0 h
theorem run_eq {R : Type} (k : Nat) (a0 : GV) (h : Heap) (fin : GV → Heap → Option R) : kfun PP cfg NN HH k fn.spec_EntryOk [a0] h fin = run k a0 h fin := (kfun_eq (nt := 59) (c := c0) (show PP.funcs[fn.spec_EntryOk]? = some Tryd.f73 by kernel_rfl) (by kernel_rfl) (by kernel_rfl) (fun x σ h => by cases x <;> kernel_rfl)).trans (n0_eq k (fun x v2 h => kend x (fin v2 h)) _ h)
theorem gives {k : Nat} {a0 : GV} {v : GV} (e : run k a0 [] finN = some v) : NN fn.spec_EntryOk [a0] = some v := nω_of (by kernel_rfl) ((run_eq k a0 [] finN).trans e)
end S.spec_EntryOk
/-! spec_l18Show -/
namespace S.spec_l18Show
noncomputable def c0 : Code := bodyOf Tryd.f74
noncomputable def c1 : Code := cR c0
noncomputable def c2 : Code := cR c1
@[simp] def n2 {R : Type} (k : Nat) (G : KT1 R) (v1 : GV) (h : Heap) : Option R := (kfa 1 v1).bind fun v27 => (kload1 h v27).bind fun v28 => (kN NN fn.spec_l3Int [v28] h).bind fun v29 => (kbin .add (.str { data := #[115, 105, 122, 101, 32] }) v29).bind fun v30 => (kbin .add v30 (.str { data := #[32] })).bind fun v31 => (kfa 2 v1).bind fun v32 => (kload1 h v32).bind fun v33 => (kN NN fn.spec_l3Int [v33] h).bind fun v34 => (kbin .add v31 v34).bind fun v35 => G .ret v35 h
theorem n2_eq (G : KT1 R) (σ : GS) (h : Heap) : KC k 36 c2 σ h (fun x σ h => G x (σ 2) h) = n2 k G (σ 1) h := by kernel_rfl
noncomputable def c3 : Code := cL c1
noncomputable def c4 : Code := cR c3
noncomputable def c5 : Code := cL c4
@[simp] def n5 {R : Type} (k : Nat) (G : KT2 R) (v1 v2 v4 : GV) (h : Heap) : Option R := (kbin .eql v4 (.int .i64 1)).bind fun v6 => kcond v6 ((kfa 1 v1).bind fun v7 => (kload1 h v7).bind fun v8 => (kN NN fn.spec_l3Int [v8] h).bind fun v9 => (kbin .add (.str { data := #[107, 101, 121, 115, 32] }) v9).bind fun v10 => (kbin .add v10 (.str { data := #[32] })).bind fun v11 => (kfa 2 v1).bind fun v12 => (kload1 h v12).bind fun v13 => (kN NN fn.spec_l3Int [v13] h).bind fun v14 => (kbin .add v11 v14).bind fun v15 => (kbin .add v15 (.str { data := #[32] })).bind fun v16 => (kfa 3 v1).bind fun v17 => (kload1 h v17).bind fun v18 => (kN NN fn.spec_l18Hex [v18] h).bind fun v19 => (kbin .add v16 v19).bind fun v20 => G .ret v1 v20 h) ((kbin .eql v4 (.int .i64 2)).bind fun v22 => kcond v22 ((kfa 3 v1).bind fun v23 => (kload1 h v23).bind fun v24 => (kN NN fn.spec_l18Hex [v24] h).bind fun v25 => (kbin .add (.str { data := #[111, 117, 116, 32] }) v25).bind fun v26 => G .ret v1 v26 h) (G .nrm v1 v2 h))
theorem n5_eq (G : KT2 R) (σ : GS) (h : Heap) : KC k 36 c5 σ h (fun x σ h => G x (σ 1) (σ 2) h) = n5 k G (σ 1) (σ 2) (σ 4) h := by kernel_rfl
@[simp] def n4 (G : KT2 R) (v1 v2 v4 : GV) (h : Heap) : Option R := n5 k (fun x v1 v2 h => kb 0 x fun x => G x v1 v2 h) v1 v2 v4 h
theorem n4_eq (G : KT2 R) (σ : GS) (h : Heap) : KC k 36 c4 σ h (fun x σ h => G x (σ 1) (σ 2) h) = n4 k G (σ 1) (σ 2) (σ 4) h := (kblock_eq (a := c5) rfl).trans (n5_eq k (fun x v1 v2 h => kb 0 x fun x => G x v1 v2 h) σ h)
noncomputable def c6 : Code := cL c3
@[simp] def n3 (G : KT2 R) (v1 v2 : GV) (h : Heap) : Option R := (kfa 0 v1).bind fun v3 => (kload1 h v3).bind fun v4 => n4 k G v1 v2 v4 h
theorem n3_eq (G : KT2 R) (σ : GS) (h : Heap) : KC k 36 c3 σ h (fun x σ h => G x (σ 1) (σ 2) h) = n3 k G (σ 1) (σ 2) h := (kseq (a := c6) (b := c4) rfl (fun σ h => n4_eq k G σ h)).trans (by kernel_rfl)
@[simp] def n1 (G : KT1 R) (v1 v2 : GV) (h : Heap) : Option R := n3 k (fun x v1 v2 h => kx x (n2 k G v1 h) (G x v2 h)) v1 v2 h
theorem n1_eq (G : KT1 R) (σ : GS) (h : Heap) : KC k 36 c1 σ h (fun x σ h => G x (σ 2) h) = n1 k G (σ 1) (σ 2) h := (kseq (b := c2) rfl (fun σ h => n2_eq k G σ h)).trans (n3_eq k (fun x v1 v2 h => kx x (n2 k G v1 h) (G x v2 h)) σ h)
noncomputable def c7 : Code := cL c0
@[simp] def n0 (G : KT1 R) (v0 : GV) (h : Heap) : Option R := kbox v0 h fun v1 h => n1 k G v1 (.str { data := #[] }) h
theorem n0_eq (G : KT1 R) (σ : GS) (h : Heap) : KC k 36 c0 σ h (fun x σ h => G x (σ 2) h) = n0 k G (σ 0) h := (kseq (a := c7) (b := c1) rfl (fun σ h => n1_eq k G σ h)).trans (by kernel_rfl)
def run {R : Type} (k : Nat) (a0 : GV) (h : Heap) (fin : GV → Heap → Option R) : Option R := n0 k (fun x v2 h => kend x (fin v2 h)) a0 h
theorem run_eq {R : Type} (k : Nat) (a0 : GV) (h : Heap) (fin : GV → Heap → Option R) : kfun PP cfg NN HH k fn.spec_l18Show [a0] h fin = run k a0 h fin := (kfun_eq (nt := 36) (c := c0) (show PP.funcs[fn.spec_l18Show]? = some Tryd.f74 by kernel_rfl) (by kernel_rfl) (by kernel_rfl) (fun x σ h => by cases x <;> kernel_rfl)).trans (n0_eq k (fun x v2 h => kend x (fin v2 h)) _ h)
theorem gives {k : Nat} {a0 : GV} {v : GV} (e : run k a0 [] finN = some v) : NN fn.spec_l18Show [a0] = some v := nω_of (by kernel_rfl) ((run_eq k a0 [] finN).trans e)
end S.spec_l18Show
/-! impl_spaced -/
namespace S.impl_spaced
noncomputable def c0 : Code := bodyOf Tryd.f75
noncomputable def c1 : Code := cR c0
noncomputable def c2 : Code := cR c1
noncomputable def c3 : Code := cR c2
@[simp] def n3 {R : Type} (k : Nat) (G : KT1 R) (v3 : GV) (h : Heap) : Option R := (kN NN fn.strings_Join [v3, (.str { data := #[32] })] h).bind fun v20 => G .ret v20 h
theorem n3_eq (G : KT1 R) (σ : GS) (h : Heap) : KC k 21 c3 σ h (fun x σ h => G x (σ 2) h) = n3 k G (σ 3) h := by kernel_rfl
noncomputable def c4 : Code := cL c2
noncomputable def c5 : Code := cR c4
noncomputable def c6 : Code := cL c5
noncomputable def c7 : Code := cL c6
noncomputable def c8 : Code := cR c7
noncomputable def c9 : Code := cR c8
noncomputable def c10 : Code := cR c9
@[simp] def n10 {R : Type} (k : Nat) (G : KT5 R) (v2 v3 v7 v8 v9 : GV) (h : Heap) : Option R := (kbin .add v9 (.int .i64 1)).bind fun v18 => G .nrm v2 v3 v7 v8 v18 h
theorem n10_eq (G : KT5 R) (σ : GS) (h : Heap) : KC k 21 c10 σ h (fun x σ h => G x (σ 2) (σ 3) (σ 7) (σ 8) (σ 9) h) = n10 k G (σ 2) (σ 3) (σ 7) (σ 8) (σ 9) h := by kernel_rfl
noncomputable def c11 : Code := cL c9
noncomputable def c12 : Code := cL c11
@[simp] def n12 {R : Type} (k : Nat) (G : KT5 R) (v2 v3 v7 v8 v9 : GV) (h : Heap) : Option R := (kia 1 v7 v9).bind fun v11 => (kload1 h v11).bind fun v12 => (kN NN fn.impl_decimal [v12] h).bind fun v15 => (gfill (fun i => some (i * 1, 1)) (zeros [(.str { data := #[] })] 1) [(0, v15)]).bind fun c => kbs 1 1 c h fun v16 h => (kapp [(.str { data := #[] })] 1 16 v3 v16 h).bind fun r => kr r fun v17 h => G .nrm v2 v17 v7 v8 v9 h
theorem n12_eq (G : KT5 R) (σ : GS) (h : Heap) : KC k 21 c12 σ h (fun x σ h => G x (σ 2) (σ 3) (σ 7) (σ 8) (σ 9) h) = n12 k G (σ 2) (σ 3) (σ 7) (σ 8) (σ 9) h := by kernel_rfl
@[simp] def n11 (G : KT5 R) (v2 v3 v7 v8 v9 : GV) (h : Heap) : Option R := n12 k (fun x v2 v3 v7 v8 v9 h => kb 1 x fun x => G x v2 v3 v7 v8 v9 h) v2 v3 v7 v8 v9 h
theorem n11_eq (G : KT5 R) (σ : GS) (h : Heap) : KC k 21 c11 σ h (fun x σ h => G x (σ 2) (σ 3) (σ 7) (σ 8) (σ 9) h) = n11 k G (σ 2) (σ 3) (σ 7) (σ 8) (σ 9) h := (kblock_eq (a := c12) rfl).trans (n12_eq k (fun x v2 v3 v7 v8 v9 h => kb 1 x fun x => G x v2 v3 v7 v8 v9 h) σ h)
@[simp] def n9 (G : KT5 R) (v2 v3 v7 v8 v9 : GV) (h : Heap) : Option R := n11 k (fun x v2 v3 v7 v8 v9 h => kx x (n10 k G v2 v3 v7 v8 v9 h) (G x v2 v3 v7 v8 v9 h)) v2 v3 v7 v8 v9 h
theorem n9_eq (G : KT5 R) (σ : GS) (h : Heap) : KC k 21 c9 σ h (fun x σ h => G x (σ 2) (σ 3) (σ 7) (σ 8) (σ 9) h) = n9 k G (σ 2) (σ 3) (σ 7) (σ 8) (σ 9) h := (kseq (b := c10) rfl (fun σ h => n10_eq k G σ h)).trans (n11_eq k (fun x v2 v3 v7 v8 v9 h => kx x (n10 k G v2 v3 v7 v8 v9 h) (G x v2 v3 v7 v8 v9 h)) σ h)
noncomputable def c13 : Code := cL c8
@[simp] def n8 (G : KT5 R) (v2 v3 v7 v8 v9 v10 : GV) (h : Heap) : Option R := kcond v10 (n9 k G v2 v3 v7 v8 v9 h) (G (.ext 0) v2 v3 v7 v8 v9 h)
theorem n8_eq (G : KT5 R) (σ : GS) (h : Heap) : KC k 21 c8 σ h (fun x σ h => G x (σ 2) (σ 3) (σ 7) (σ 8) (σ 9) h) = n8 k G (σ 2) (σ 3) (σ 7) (σ 8) (σ 9) (σ 10) h := (kseq (a := c13) (b := c9) rfl (fun σ h => n9_eq k G σ h)).trans (by kernel_rfl)
noncomputable def c14 : Code := cL c7
@[simp] def n7 (G : KT5 R) (v2 v3 v7 v8 v9 : GV) (h : Heap) : Option R := (kbin .lss v9 v8).bind fun v10 => n8 k G v2 v3 v7 v8 v9 v10 h
theorem n7_eq (G : KT5 R) (σ : GS) (h : Heap) : KC k 21 c7 σ h (fun x σ h => G x (σ 2) (σ 3) (σ 7) (σ 8) (σ 9) h) = n7 k G (σ 2) (σ 3) (σ 7) (σ 8) (σ 9) h := (kseq (a := c14) (b := c8) rfl (fun σ h => n8_eq k G σ h)).trans (by kernel_rfl)
def l6 {R : Type} (k : Nat) (G : KT2 R) : Nat → GV → GV → GV → GV → GV → Heap → Option R
  | 0, _, _, _, _, _, _ => none
  | r + 1, v2, v3, v7, v8, v9, h => n7 k (fun x v2 v3 v7 v8 v9 h => kx x (l6 k G r v2 v3 v7 v8 v9 h) (G x v2 v3 h)) v2 v3 v7 v8 v9 h
theorem l6_eq {R : Type} (k : Nat) (G : KT2 R) : ∀ (r : Nat) (σ : GS) (h : Heap), kloop (fun σ h K => KC k 21 c7 σ h K) r σ h (fun x σ h => G x (σ 2) (σ 3) h) = l6 k G r (σ 2) (σ 3) (σ 7) (σ 8) (σ 9) h
  | 0, _, _ => rfl
  | r + 1, σ, h => (kloop_eq (fun σ h => l6_eq k G r σ h)).trans (n7_eq k (fun x v2 v3 v7 v8 v9 h => kx x (l6 k G r v2 v3 v7 v8 v9 h) (G x v2 v3 h)) σ h)
@[simp] def n6 (G : KT2 R) (v2 v3 v7 v8 v9 : GV) (h : Heap) : Option R := l6 k G k v2 v3 v7 v8 v9 h
theorem n6_eq (G : KT2 R) (σ : GS) (h : Heap) : KC k 21 c6 σ h (fun x σ h => G x (σ 2) (σ 3) h) = n6 k G (σ 2) (σ 3) (σ 7) (σ 8) (σ 9) h := (kloopc_eq (a := c7) rfl).trans (l6_eq k G k σ h)
@[simp] def n5 (G : KT2 R) (v2 v3 v7 v8 v9 : GV) (h : Heap) : Option R := n6 k (fun x v2 v3 h => kb 0 x fun x => G x v2 v3 h) v2 v3 v7 v8 v9 h
theorem n5_eq (G : KT2 R) (σ : GS) (h : Heap) : KC k 21 c5 σ h (fun x σ h => G x (σ 2) (σ 3) h) = n5 k G (σ 2) (σ 3) (σ 7) (σ 8) (σ 9) h := (kblock_eq (a := c6) rfl).trans (n6_eq k (fun x v2 v3 h => kb 0 x fun x => G x v2 v3 h) σ h)
noncomputable def c15 : Code := cL c4
@[simp] def n4 (G : KT2 R) (v0 v2 v3 : GV) (h : Heap) : Option R := (klen v0).bind fun v8 => n5 k G v2 v3 v0 v8 (.int .i64 0) h
theorem n4_eq (G : KT2 R) (σ : GS) (h : Heap) : KC k 21 c4 σ h (fun x σ h => G x (σ 2) (σ 3) h) = n4 k G (σ 0) (σ 2) (σ 3) h := (kseq (a := c15) (b := c5) rfl (fun σ h => n5_eq k G σ h)).trans (by kernel_rfl)
@[simp] def n2 (G : KT1 R) (v0 v2 v3 : GV) (h : Heap) : Option R := n4 k (fun x v2 v3 h => kx x (n3 k G v3 h) (G x v2 h)) v0 v2 v3 h
theorem n2_eq (G : KT1 R) (σ : GS) (h : Heap) : KC k 21 c2 σ h (fun x σ h => G x (σ 2) h) = n2 k G (σ 0) (σ 2) (σ 3) h := (kseq (b := c3) rfl (fun σ h => n3_eq k G σ h)).trans (n4_eq k (fun x v2 v3 h => kx x (n3 k G v3 h) (G x v2 h)) σ h)
noncomputable def c16 : Code := cL c1
@[simp] def n1 (G : KT1 R) (v0 v2 : GV) (h : Heap) : Option R := n2 k G v0 v2 .emp h
theorem n1_eq (G : KT1 R) (σ : GS) (h : Heap) : KC k 21 c1 σ h (fun x σ h => G x (σ 2) h) = n1 k G (σ 0) (σ 2) h := (kseq (a := c16) (b := c2) rfl (fun σ h => n2_eq k G σ h)).trans (by kernel_rfl)
noncomputable def c17 : Code := cL c0
@[simp] def n0 (G : KT1 R) (v0 : GV) (h : Heap) : Option R := n1 k G v0 (.str { data := #[] }) h
theorem n0_eq (G : KT1 R) (σ : GS) (h : Heap) : KC k 21 c0 σ h (fun x σ h => G x (σ 2) h) = n0 k G (σ 0) h := (kseq (a := c17) (b := c1) rfl (fun σ h => n1_eq k G σ h)).trans (by kernel_rfl)
def run {R : Type} (k : Nat) (a0 : GV) (h : Heap) (fin : GV → Heap → Option R) : Option R := n0 k (fun x v2 h => kend x (fin v2 h)) a0 h
theorem run_eq {R : Type} (k : Nat) (a0 : GV) (h : Heap) (fin : GV → Heap → Option R) : kfun PP cfg NN HH k fn.impl_spaced [a0] h fin = run k a0 h fin := (kfun_eq (nt := 21) (c := c0) (show PP.funcs[fn.impl_spaced]? = some Tryd.f75 by kernel_rfl) (by kernel_rfl) (by kernel_rfl) (fun x σ h => by cases x <;> kernel_rfl)).trans (n0_eq k (fun x v2 h => kend x (fin v2 h)) _ h)
theorem gives {k : Nat} {a0 : GV} {v : GV} (e : run k a0 [] finN = some v) : NN fn.impl_spaced [a0] = some v := nω_of (by kernel_rfl) ((run_eq k a0 [] finN).trans e)
end S.impl_spaced
/-! impl_hex -/
namespace S.impl_hex
noncomputable def c0 : Code := bodyOf Tryd.f76
noncomputable def c1 : Code := cR c0
noncomputable def c2 : Code := cR c1
noncomputable def c3 : Code := cR c2
@[simp] def n3 {R : Type} (k : Nat) (G : KT1 R) (v3 : GV) (h : Heap) : Option R := (kbstr h v3).bind fun v26 => G .ret v26 h
theorem n3_eq (G : KT1 R) (σ : GS) (h : Heap) : KC k 27 c3 σ h (fun x σ h => G x (σ 2) h) = n3 k G (σ 3) h := by kernel_rfl
noncomputable def c4 : Code := cL c2
noncomputable def c5 : Code := cR c4
noncomputable def c6 : Code := cL c5
noncomputable def c7 : Code := cL c6
noncomputable def c8 : Code := cR c7
noncomputable def c9 : Code := cR c8
noncomputable def c10 : Code := cR c9
@[simp] def n10 {R : Type} (k : Nat) (G : KT5 R) (v0 v2 v3 v7 v8 : GV) (h : Heap) : Option R := (kbin .add v8 (.int .i64 1)).bind fun v24 => G .nrm v0 v2 v3 v7 v24 h
theorem n10_eq (G : KT5 R) (σ : GS) (h : Heap) : KC k 27 c10 σ h (fun x σ h => G x (σ 0) (σ 2) (σ 3) (σ 7) (σ 8) h) = n10 k G (σ 0) (σ 2) (σ 3) (σ 7) (σ 8) h := by kernel_rfl
noncomputable def c11 : Code := cL c9
noncomputable def c12 : Code := cL c11
@[simp] def n12 {R : Type} (k : Nat) (G : KT5 R) (v0 v2 v3 v7 v8 : GV) (h : Heap) : Option R := (kbyte v0 v8).bind fun v14 => (kbin .quo v14 (.int .u8 16)).bind fun v15 => (kbyte (.str { data := #[48, 49, 50, 51, 52, 53, 54, 55, 56, 57, 97, 98, 99, 100, 101, 102] }) v15).bind fun v16 => (kbyte v0 v8).bind fun v19 => (kbin .rem v19 (.int .u8 16)).bind fun v20 => (kbyte (.str { data := #[48, 49, 50, 51, 52, 53, 54, 55, 56, 57, 97, 98, 99, 100, 101, 102] }) v20).bind fun v21 => (gfill (fun i => some (i * 1, 1)) (zeros [(.int .u8 0)] 2) [(0, v16), (1, v21)]).bind fun c => kbs 2 1 c h fun v22 h => (kapp [(.int .u8 0)] 1 1 v3 v22 h).bind fun r => kr r fun v23 h => G .nrm v0 v2 v23 v7 v8 h
theorem n12_eq (G : KT5 R) (σ : GS) (h : Heap) : KC k 27 c12 σ h (fun x σ h => G x (σ 0) (σ 2) (σ 3) (σ 7) (σ 8) h) = n12 k G (σ 0) (σ 2) (σ 3) (σ 7) (σ 8) h := by kernel_rfl
@[simp] def n11 (G : KT5 R) (v0 v2 v3 v7 v8 : GV) (h : Heap) : Option R := n12 k (fun x v0 v2 v3 v7 v8 h => kb 1 x fun x => G x v0 v2 v3 v7 v8 h) v0 v2 v3 v7 v8 h
theorem n11_eq (G : KT5 R) (σ : GS) (h : Heap) : KC k 27 c11 σ h (fun x σ h => G x (σ 0) (σ 2) (σ 3) (σ 7) (σ 8) h) = n11 k G (σ 0) (σ 2) (σ 3) (σ 7) (σ 8) h := (kblock_eq (a := c12) rfl).trans (n12_eq k (fun x v0 v2 v3 v7 v8 h => kb 1 x fun x => G x v0 v2 v3 v7 v8 h) σ h)
@[simp] def n9 (G : KT5 R) (v0 v2 v3 v7 v8 : GV) (h : Heap) : Option R := n11 k (fun x v0 v2 v3 v7 v8 h => kx x (n10 k G v0 v2 v3 v7 v8 h) (G x v0 v2 v3 v7 v8 h)) v0 v2 v3 v7 v8 h
theorem n9_eq (G : KT5 R) (σ : GS) (h : Heap) : KC k 27 c9 σ h (fun x σ h => G x (σ 0) (σ 2) (σ 3) (σ 7) (σ 8) h) = n9 k G (σ 0) (σ 2) (σ 3) (σ 7) (σ 8) h := (kseq (b := c10) rfl (fun σ h => n10_eq k G σ h)).trans (n11_eq k (fun x v0 v2 v3 v7 v8 h => kx x (n10 k G v0 v2 v3 v7 v8 h) (G x v0 v2 v3 v7 v8 h)) σ h)
noncomputable def c13 : Code := cL c8
@[simp] def n8 (G : KT5 R) (v0 v2 v3 v7 v8 v9 : GV) (h : Heap) : Option R := kcond v9 (n9 k G v0 v2 v3 v7 v8 h) (G (.ext 0) v0 v2 v3 v7 v8 h)
theorem n8_eq (G : KT5 R) (σ : GS) (h : Heap) : KC k 27 c8 σ h (fun x σ h => G x (σ 0) (σ 2) (σ 3) (σ 7) (σ 8) h) = n8 k G (σ 0) (σ 2) (σ 3) (σ 7) (σ 8) (σ 9) h := (kseq (a := c13) (b := c9) rfl (fun σ h => n9_eq k G σ h)).trans (by kernel_rfl)
noncomputable def c14 : Code := cL c7
@[simp] def n7 (G : KT5 R) (v0 v2 v3 v7 v8 : GV) (h : Heap) : Option R := (kbin .lss v8 v7).bind fun v9 => n8 k G v0 v2 v3 v7 v8 v9 h
theorem n7_eq (G : KT5 R) (σ : GS) (h : Heap) : KC k 27 c7 σ h (fun x σ h => G x (σ 0) (σ 2) (σ 3) (σ 7) (σ 8) h) = n7 k G (σ 0) (σ 2) (σ 3) (σ 7) (σ 8) h := (kseq (a := c14) (b := c8) rfl (fun σ h => n8_eq k G σ h)).trans (by kernel_rfl)
def l6 {R : Type} (k : Nat) (G : KT2 R) : Nat → GV → GV → GV → GV → GV → Heap → Option R
  | 0, _, _, _, _, _, _ => none
  | r + 1, v0, v2, v3, v7, v8, h => n7 k (fun x v0 v2 v3 v7 v8 h => kx x (l6 k G r v0 v2 v3 v7 v8 h) (G x v2 v3 h)) v0 v2 v3 v7 v8 h
theorem l6_eq {R : Type} (k : Nat) (G : KT2 R) : ∀ (r : Nat) (σ : GS) (h : Heap), kloop (fun σ h K => KC k 27 c7 σ h K) r σ h (fun x σ h => G x (σ 2) (σ 3) h) = l6 k G r (σ 0) (σ 2) (σ 3) (σ 7) (σ 8) h
  | 0, _, _ => rfl
  | r + 1, σ, h => (kloop_eq (fun σ h => l6_eq k G r σ h)).trans (n7_eq k (fun x v0 v2 v3 v7 v8 h => kx x (l6 k G r v0 v2 v3 v7 v8 h) (G x v2 v3 h)) σ h)
@[simp] def n6 (G : KT2 R) (v0 v2 v3 v7 v8 : GV) (h : Heap) : Option R := l6 k G k v0 v2 v3 v7 v8 h
theorem n6_eq (G : KT2 R) (σ : GS) (h : Heap) : KC k 27 c6 σ h (fun x σ h => G x (σ 2) (σ 3) h) = n6 k G (σ 0) (σ 2) (σ 3) (σ 7) (σ 8) h := (kloopc_eq (a := c7) rfl).trans (l6_eq k G k σ h)
@[simp] def n5 (G : KT2 R) (v0 v2 v3 v7 v8 : GV) (h : Heap) : Option R := n6 k (fun x v2 v3 h => kb 0 x fun x => G x v2 v3 h) v0 v2 v3 v7 v8 h
theorem n5_eq (G : KT2 R) (σ : GS) (h : Heap) : KC k 27 c5 σ h (fun x σ h => G x (σ 2) (σ 3) h) = n5 k G (σ 0) (σ 2) (σ 3) (σ 7) (σ 8) h := (kblock_eq (a := c6) rfl).trans (n6_eq k (fun x v2 v3 h => kb 0 x fun x => G x v2 v3 h) σ h)
noncomputable def c15 : Code := cL c4
@[simp] def n4 (G : KT2 R) (v0 v2 v3 : GV) (h : Heap) : Option R := (klenS v0).bind fun v7 => n5 k G v0 v2 v3 v7 (.int .i64 0) h
theorem n4_eq (G : KT2 R) (σ : GS) (h : Heap) : KC k 27 c4 σ h (fun x σ h => G x (σ 2) (σ 3) h) = n4 k G (σ 0) (σ 2) (σ 3) h := (kseq (a := c15) (b := c5) rfl (fun σ h => n5_eq k G σ h)).trans (by kernel_rfl)
@[simp] def n2 (G : KT1 R) (v0 v2 v3 : GV) (h : Heap) : Option R := n4 k (fun x v2 v3 h => kx x (n3 k G v3 h) (G x v2 h)) v0 v2 v3 h
theorem n2_eq (G : KT1 R) (σ : GS) (h : Heap) : KC k 27 c2 σ h (fun x σ h => G x (σ 2) h) = n2 k G (σ 0) (σ 2) (σ 3) h := (kseq (b := c3) rfl (fun σ h => n3_eq k G σ h)).trans (n4_eq k (fun x v2 v3 h => kx x (n3 k G v3 h) (G x v2 h)) σ h)
noncomputable def c16 : Code := cL c1
@[simp] def n1 (G : KT1 R) (v0 v2 : GV) (h : Heap) : Option R := n2 k G v0 v2 .emp h
theorem n1_eq (G : KT1 R) (σ : GS) (h : Heap) : KC k 27 c1 σ h (fun x σ h => G x (σ 2) h) = n1 k G (σ 0) (σ 2) h := (kseq (a := c16) (b := c2) rfl (fun σ h => n2_eq k G σ h)).trans (by kernel_rfl)
noncomputable def c17 : Code := cL c0
@[simp] def n0 (G : KT1 R) (v0 : GV) (h : Heap) : Option R := n1 k G v0 (.str { data := #[] }) h
theorem n0_eq (G : KT1 R) (σ : GS) (h : Heap) : KC k 27 c0 σ h (fun x σ h => G x (σ 2) h) = n0 k G (σ 0) h := (kseq (a := c17) (b := c1) rfl (fun σ h => n1_eq k G σ h)).trans (by kernel_rfl)
def run {R : Type} (k : Nat) (a0 : GV) (h : Heap) (fin : GV → Heap → Option R) : Option R := n0 k (fun x v2 h => kend x (fin v2 h)) a0 h
theorem run_eq {R : Type} (k : Nat) (a0 : GV) (h : Heap) (fin : GV → Heap → Option R) : kfun PP cfg NN HH k fn.impl_hex [a0] h fin = run k a0 h fin := (kfun_eq (nt := 27) (c := c0) (show PP.funcs[fn.impl_hex]? = some Tryd.f76 by kernel_rfl) (by kernel_rfl) (by kernel_rfl) (fun x σ h => by cases x <;> kernel_rfl)).trans (n0_eq k (fun x v2 h => kend x (fin v2 h)) _ h)
theorem gives {k : Nat} {a0 : GV} {v : GV} (e : run k a0 [] finN = some v) : NN fn.impl_hex [a0] = some v := nω_of (by kernel_rfl) ((run_eq k a0 [] finN).trans e)
end S.impl_hex
/-! impl_isKeys -/
namespace S.impl_isKeys
noncomputable def c0 : Code := bodyOf Tryd.f105
@[simp] def n0 {R : Type} (k : Nat) (G : KT1 R) (v0 : GV) (h : Heap) : Option R := (klenS v0).bind fun v4 => (kN NN fn.impl_in [v4, (.int .i64 1), (.int .i64 20)] h).bind fun v5 => G .ret v5 h
theorem n0_eq (G : KT1 R) (σ : GS) (h : Heap) : KC k 6 c0 σ h (fun x σ h => G x (σ 2) h) = n0 k G (σ 0) h := by kernel_rfl
def run {R : Type} (k : Nat) (a0 : GV) (h : Heap) (fin : GV → Heap → Option R) : Option R := n0 k (fun x v2 h => kend x (fin v2 h)) a0 h
theorem run_eq {R : Type} (k : Nat) (a0 : GV) (h : Heap) (fin : GV → Heap → Option R) : kfun PP cfg NN HH k fn.impl_isKeys [a0] h fin = run k a0 h fin := (kfun_eq (nt := 6) (c := c0) (show PP.funcs[fn.impl_isKeys]? = some Tryd.f105 by kernel_rfl) (by kernel_rfl) (by kernel_rfl) (fun x σ h => by cases x <;> kernel_rfl)).trans (n0_eq k (fun x v2 h => kend x (fin v2 h)) _ h)
theorem gives {k : Nat} {a0 : GV} {v : GV} (e : run k a0 [] finN = some v) : NN fn.impl_isKeys [a0] = some v := nω_of (by kernel_rfl) ((run_eq k a0 [] finN).trans e)
end S.impl_isKeys
/-! spec_l18Hex -/
namespace S.spec_l18Hex
noncomputable def c0 : Code := bodyOf Tryd.f140
noncomputable def c1 : Code := cR c0
noncomputable def c2 : Code := cR c1
noncomputable def c3 : Code := cR c2
@[simp] def n3 {R : Type} (k : Nat) (G : KT1 R) (v3 : GV) (h : Heap) : Option R := (kbstr h v3).bind fun v26 => G .ret v26 h
theorem n3_eq (G : KT1 R) (σ : GS) (h : Heap) : KC k 27 c3 σ h (fun x σ h => G x (σ 2) h) = n3 k G (σ 3) h := by kernel_rfl
noncomputable def c4 : Code := cL c2
noncomputable def c5 : Code := cR c4
noncomputable def c6 : Code := cL c5
noncomputable def c7 : Code := cL c6
noncomputable def c8 : Code := cR c7
noncomputable def c9 : Code := cR c8
@[simp] def n9 {R : Type} (k : Nat) (G : KT4 R) (v0 v2 v3 v4 : GV) (h : Heap) : Option R := (kbin .add v4 (.int .i64 1)).bind fun v11 => G .nrm v0 v2 v3 v11 h
theorem n9_eq (G : KT4 R) (σ : GS) (h : Heap) : KC k 27 c9 σ h (fun x σ h => G x (σ 0) (σ 2) (σ 3) (σ 4) h) = n9 k G (σ 0) (σ 2) (σ 3) (σ 4) h := by kernel_rfl
noncomputable def c10 : Code := cL c8
noncomputable def c11 : Code := cL c10
@[simp] def n11 {R : Type} (k : Nat) (G : KT4 R) (v0 v2 v3 v4 : GV) (h : Heap) : Option R := (kbyte v0 v4).bind fun v15 => (kbin .quo v15 (.int .u8 16)).bind fun v16 => (kbyte (.str { data := #[48, 49, 50, 51, 52, 53, 54, 55, 56, 57, 97, 98, 99, 100, 101, 102] }) v16).bind fun v17 => (kbyte v0 v4).bind fun v20 => (kbin .rem v20 (.int .u8 16)).bind fun v21 => (kbyte (.str { data := #[48, 49, 50, 51, 52, 53, 54, 55, 56, 57, 97, 98, 99, 100, 101, 102] }) v21).bind fun v22 => (gfill (fun i => some (i * 1, 1)) (zeros [(.int .u8 0)] 2) [(0, v17), (1, v22)]).bind fun c => kbs 2 1 c h fun v23 h => (kapp [(.int .u8 0)] 1 1 v3 v23 h).bind fun r => kr r fun v24 h => G .nrm v0 v2 v24 v4 h
theorem n11_eq (G : KT4 R) (σ : GS) (h : Heap) : KC k 27 c11 σ h (fun x σ h => G x (σ 0) (σ 2) (σ 3) (σ 4) h) = n11 k G (σ 0) (σ 2) (σ 3) (σ 4) h := by kernel_rfl
@[simp] def n10 (G : KT4 R) (v0 v2 v3 v4 : GV) (h : Heap) : Option R := n11 k (fun x v0 v2 v3 v4 h => kb 1 x fun x => G x v0 v2 v3 v4 h) v0 v2 v3 v4 h
theorem n10_eq (G : KT4 R) (σ : GS) (h : Heap) : KC k 27 c10 σ h (fun x σ h => G x (σ 0) (σ 2) (σ 3) (σ 4) h) = n10 k G (σ 0) (σ 2) (σ 3) (σ 4) h := (kblock_eq (a := c11) rfl).trans (n11_eq k (fun x v0 v2 v3 v4 h => kb 1 x fun x => G x v0 v2 v3 v4 h) σ h)
@[simp] def n8 (G : KT4 R) (v0 v2 v3 v4 : GV) (h : Heap) : Option R := n10 k (fun x v0 v2 v3 v4 h => kx x (n9 k G v0 v2 v3 v4 h) (G x v0 v2 v3 v4 h)) v0 v2 v3 v4 h
theorem n8_eq (G : KT4 R) (σ : GS) (h : Heap) : KC k 27 c8 σ h (fun x σ h => G x (σ 0) (σ 2) (σ 3) (σ 4) h) = n8 k G (σ 0) (σ 2) (σ 3) (σ 4) h := (kseq (b := c9) rfl (fun σ h => n9_eq k G σ h)).trans (n10_eq k (fun x v0 v2 v3 v4 h => kx x (n9 k G v0 v2 v3 v4 h) (G x v0 v2 v3 v4 h)) σ h)
noncomputable def c12 : Code := cL c7
@[simp] def n7 (G : KT4 R) (v0 v2 v3 v4 : GV) (h : Heap) : Option R := (klenS v0).bind fun v8 => (kbin .lss v4 v8).bind fun v9 => kcond v9 (n8 k G v0 v2 v3 v4 h) (G (.ext 0) v0 v2 v3 v4 h)
theorem n7_eq (G : KT4 R) (σ : GS) (h : Heap) : KC k 27 c7 σ h (fun x σ h => G x (σ 0) (σ 2) (σ 3) (σ 4) h) = n7 k G (σ 0) (σ 2) (σ 3) (σ 4) h := (kseq (a := c12) (b := c8) rfl (fun σ h => n8_eq k G σ h)).trans (by kernel_rfl)
def l6 {R : Type} (k : Nat) (G : KT2 R) : Nat → GV → GV → GV → GV → Heap → Option R
  | 0, _, _, _, _, _ => none
  | r + 1, v0, v2, v3, v4, h => n7 k (fun x v0 v2 v3 v4 h => kx x (l6 k G r v0 v2 v3 v4 h) (G x v2 v3 h)) v0 v2 v3 v4 h
theorem l6_eq {R : Type} (k : Nat) (G : KT2 R) : ∀ (r : Nat) (σ : GS) (h : Heap), kloop (fun σ h K => KC k 27 c7 σ h K) r σ h (fun x σ h => G x (σ 2) (σ 3) h) = l6 k G r (σ 0) (σ 2) (σ 3) (σ 4) h
  | 0, _, _ => rfl
  | r + 1, σ, h => (kloop_eq (fun σ h => l6_eq k G r σ h)).trans (n7_eq k (fun x v0 v2 v3 v4 h => kx x (l6 k G r v0 v2 v3 v4 h) (G x v2 v3 h)) σ h)
@[simp] def n6 (G : KT2 R) (v0 v2 v3 v4 : GV) (h : Heap) : Option R := l6 k G k v0 v2 v3 v4 h
theorem n6_eq (G : KT2 R) (σ : GS) (h : Heap) : KC k 27 c6 σ h (fun x σ h => G x (σ 2) (σ 3) h) = n6 k G (σ 0) (σ 2) (σ 3) (σ 4) h := (kloopc_eq (a := c7) rfl).trans (l6_eq k G k σ h)
@[simp] def n5 (G : KT2 R) (v0 v2 v3 v4 : GV) (h : Heap) : Option R := n6 k (fun x v2 v3 h => kb 0 x fun x => G x v2 v3 h) v0 v2 v3 v4 h
theorem n5_eq (G : KT2 R) (σ : GS) (h : Heap) : KC k 27 c5 σ h (fun x σ h => G x (σ 2) (σ 3) h) = n5 k G (σ 0) (σ 2) (σ 3) (σ 4) h := (kblock_eq (a := c6) rfl).trans (n6_eq k (fun x v2 v3 h => kb 0 x fun x => G x v2 v3 h) σ h)
noncomputable def c13 : Code := cL c4
@[simp] def n4 (G : KT2 R) (v0 v2 v3 : GV) (h : Heap) : Option R := n5 k G v0 v2 v3 (.int .i64 0) h
theorem n4_eq (G : KT2 R) (σ : GS) (h : Heap) : KC k 27 c4 σ h (fun x σ h => G x (σ 2) (σ 3) h) = n4 k G (σ 0) (σ 2) (σ 3) h := (kseq (a := c13) (b := c5) rfl (fun σ h => n5_eq k G σ h)).trans (by kernel_rfl)
@[simp] def n2 (G : KT1 R) (v0 v2 v3 : GV) (h : Heap) : Option R := n4 k (fun x v2 v3 h => kx x (n3 k G v3 h) (G x v2 h)) v0 v2 v3 h
theorem n2_eq (G : KT1 R) (σ : GS) (h : Heap) : KC k 27 c2 σ h (fun x σ h => G x (σ 2) h) = n2 k G (σ 0) (σ 2) (σ 3) h := (kseq (b := c3) rfl (fun σ h => n3_eq k G σ h)).trans (n4_eq k (fun x v2 v3 h => kx x (n3 k G v3 h) (G x v2 h)) σ h)
noncomputable def c14 : Code := cL c1
@[simp] def n1 (G : KT1 R) (v0 v2 : GV) (h : Heap) : Option R := n2 k G v0 v2 .emp h
theorem n1_eq (G : KT1 R) (σ : GS) (h : Heap) : KC k 27 c1 σ h (fun x σ h => G x (σ 2) h) = n1 k G (σ 0) (σ 2) h := (kseq (a := c14) (b := c2) rfl (fun σ h => n2_eq k G σ h)).trans (by kernel_rfl)
noncomputable def c15 : Code := cL c0
@[simp] def n0 (G : KT1 R) (v0 : GV) (h : Heap) : Option R := n1 k G v0 (.str { data := #[] }) h
theorem n0_eq (G : KT1 R) (σ : GS) (h : Heap) : KC k 27 c0 σ h (fun x σ h => G x (σ 2) h) = n0 k G (σ 0) h := (kseq (a := c15) (b := c1) rfl (fun σ h => n1_eq k G σ h)).trans (by kernel_rfl)
def run {R : Type} (k : Nat) (a0 : GV) (h : Heap) (fin : GV → Heap → Option R) : Option R := n0 k (fun x v2 h => kend x (fin v2 h)) a0 h
theorem run_eq {R : Type} (k : Nat) (a0 : GV) (h : Heap) (fin : GV → Heap → Option R) : kfun PP cfg NN HH k fn.spec_l18Hex [a0] h fin = run k a0 h fin := (kfun_eq (nt := 27) (c := c0) (show PP.funcs[fn.spec_l18Hex]? = some Tryd.f140 by kernel_rfl) (by kernel_rfl) (by kernel_rfl) (fun x σ h => by cases x <;> kernel_rfl)).trans (n0_eq k (fun x v2 h => kend x (fin v2 h)) _ h)
theorem gives {k : Nat} {a0 : GV} {v : GV} (e : run k a0 [] finN = some v) : NN fn.spec_l18Hex [a0] = some v := nω_of (by kernel_rfl) ((run_eq k a0 [] finN).trans e)
end S.spec_l18Hex
end
end Go.Proofs.YtklhdbkaejbajaaDoor.G
