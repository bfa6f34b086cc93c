/- What these functions do, told for open values, out of the machine with continuations. Printed by a program of this session. -/
import Derived.Test.YtopmnigfklgnkaaSA
import Derived.KernelRfl
namespace Go.Proofs.Ytopmnigfklgnkaa.G
open Go.RowKit
set_option linter.unusedVariables false
set_option maxRecDepth 100000
noncomputable section
/-! spec_Submit -/
namespace S.spec_Submit
noncomputable def c0 : Code := bodyOf Try.f24
@[simp] def n0 {R : Type} (k : Nat) (G : KT2 R) (v0 v1 : GV) (h : Heap) : Option R := kbox v0 h fun v2 h => kalloc [.nils, .nils, .nils] h fun v4 h => (kloadA 3 h v2).bind fun v8 => (kN NN fn.spec_ChainOk [v8] h).bind fun v9 => (kun .not v9).bind fun v10 => kcond v10 ((gfill (fun i => [(0, 1), (1, 1), (2, 1)][i]?) [.nils, .nils, .nils] []).bind fun c => kagg c h fun v11 h => (kstore 3 h v4 v11).bind fun h => G .ret v4 (.bool false) h) ((kloadA 3 h v2).bind fun v12 => (kF false HH fn.spec_l17Copy [v12] h).bind fun r => kr r fun v13 h => kalloc [.nils, .nils, .nils] h fun v6 h => (kstore 3 h v6 v13).bind fun h => (HH fn.spec_l17Submit [v6, v1] h).bind fun r => kr r fun v15 h => (kloadA 3 h v6).bind fun v16 => (kstore 3 h v4 v16).bind fun h => G .ret v4 v15 h)
theorem n0_eq {R : Type} (k : Nat) (G : KT2 R) (σ : GS) (h : Heap) : KC k 18 c0 σ h (fun x σ h => G x (σ 4) (σ 5) h) = n0 k G (σ 0) (σ 1) h := by kernel_rfl
def run {R : Type} (k : Nat) (a0 : GV) (a1 : GV) (h : Heap) (fin : GV → Heap → Option R) : Option R := n0 k (fun x v4 v5 h => kend x ((kloadA 3 h v4).bind fun w4 => fin (.tup [w4, v5]) h)) a0 a1 h
theorem run_eq {R : Type} (k : Nat) (a0 : GV) (a1 : GV) (h : Heap) (fin : GV → Heap → Option R) : kfun PP cfg NN HH k fn.spec_Submit [a0, a1] h fin = run k a0 a1 h fin := (kfun_eq (nt := 18) (c := c0) (show PP.funcs[fn.spec_Submit]? = some Try.f24 by kernel_rfl) (by kernel_rfl) (by kernel_rfl) (fun x σ h => by cases x <;> kernel_rfl)).trans (n0_eq k (fun x v4 v5 h => kend x ((kloadA 3 h v4).bind fun w4 => fin (.tup [w4, v5]) h)) _ h)
theorem gives {k : Nat} {a0 : GV} {a1 : GV} {v : GV} (e : run k a0 a1 [] finN = some v) : NN fn.spec_Submit [a0, a1] = some v := nω_of (by kernel_rfl) ((run_eq k a0 a1 [] finN).trans e)
end S.spec_Submit
/-! impl_Submit -/
namespace S.impl_Submit
noncomputable def c0 : Code := bodyOf Try.f25
@[simp] def n0 {R : Type} (k : Nat) (G : KT2 R) (v0 v1 : GV) (h : Heap) : Option R := kbox v0 h fun v2 h => kbox v1 h fun v3 h => kalloc [.nils, .nils, .nils] h fun v4 h => (kloadA 3 h v2).bind fun v6 => (kF false HH fn.impl_changed [v6, (.fn fn.impl_Submit_1 [v3])] h).bind fun r => kr r fun v8 h => (kxt 0 v8).bind fun v9 => (kxt 1 v8).bind fun v10 => (kstore 3 h v4 v9).bind fun h => G .ret v4 v10 h
theorem n0_eq {R : Type} (k : Nat) (G : KT2 R) (σ : GS) (h : Heap) : KC k 11 c0 σ h (fun x σ h => G x (σ 4) (σ 5) h) = n0 k G (σ 0) (σ 1) h := by kernel_rfl
def run {R : Type} (k : Nat) (a0 : GV) (a1 : GV) (h : Heap) (fin : GV → Heap → Option R) : Option R := n0 k (fun x v4 v5 h => kend x ((kloadA 3 h v4).bind fun w4 => fin (.tup [w4, v5]) h)) a0 a1 h
theorem run_eq {R : Type} (k : Nat) (a0 : GV) (a1 : GV) (h : Heap) (fin : GV → Heap → Option R) : kfun PP cfg NN HH k fn.impl_Submit [a0, a1] h fin = run k a0 a1 h fin := (kfun_eq (nt := 11) (c := c0) (show PP.funcs[fn.impl_Submit]? = some Try.f25 by kernel_rfl) (by kernel_rfl) (by kernel_rfl) (fun x σ h => by cases x <;> kernel_rfl)).trans (n0_eq k (fun x v4 v5 h => kend x ((kloadA 3 h v4).bind fun w4 => fin (.tup [w4, v5]) h)) _ h)
theorem gives {k : Nat} {a0 : GV} {a1 : GV} {b : Nat} {q : GV × List (List GV)} (e : run k a0 a1 [] (finO b) = some q) : OO fn.impl_Submit [a0, a1] b = some q := oω_of ((run_eq k a0 a1 [] (finO b)).trans e)
end S.impl_Submit
/-! spec_l17Submit -/
namespace S.spec_l17Submit
noncomputable def c0 : Code := bodyOf Try.f76
noncomputable def c1 : Code := cR c0
noncomputable def c2 : Code := cR c1
noncomputable def c3 : Code := cR c2
noncomputable def c4 : Code := cR c3
noncomputable def c5 : Code := cR c4
@[simp] def n5 {R : Type} (k : Nat) (G : KT1 R) (h : Heap) : Option R := G .ret (.bool true) h
theorem n5_eq {R : Type} (k : Nat) (G : KT1 R) (σ : GS) (h : Heap) : KC k 60 c5 σ h (fun x σ h => G x (σ 4) h) = n5 k G h := by kernel_rfl
noncomputable def c6 : Code := cL c4
noncomputable def c7 : Code := cR c6
noncomputable def c8 : Code := cL c7
@[simp] def n8 {R : Type} (k : Nat) (G : KT1 R) (v4 v5 : GV) (h : Heap) : Option R := (knil v5).bind fun v40 => (kfa 1 v40).bind fun v41 => (kload1 h v41).bind fun v42 => (kbin .add v42 (.int .i64 1)).bind fun v43 => (knil v5).bind fun v44 => (kfa 1 v44).bind fun v45 => (kstore 1 h v45 v43).bind fun h => G .nrm v4 h
theorem n8_eq {R : Type} (k : Nat) (G : KT1 R) (σ : GS) (h : Heap) : KC k 60 c8 σ h (fun x σ h => G x (σ 4) h) = n8 k G (σ 4) (σ 5) h := by kernel_rfl
noncomputable def c9 : Code := cR c7
noncomputable def o9 : Array Oper := cO c9
@[simp] def g9_0 {R : Type} (k : Nat) (G : KT1 R) (v0 v1 v4 : GV) (rs : List Rec) (h : Heap) : Option R := (knil v0).bind fun v47 => (kfa 1 v47).bind fun v48 => kold h fun h0 => (kload1 h v48).bind fun v49 => krs (rs ++ [⟨3, h0.length, h.length, ⟨kblk v48, []⟩⟩]) fun rs => (knil v0).bind fun v51 => (kfa 1 v51).bind fun v52 => (kload1 h v52).bind fun v53 => (kia 1 v53 (.int .i64 0)).bind fun v54 => (kload1 h v54).bind fun v55 => (gfill (fun i => some (i * 1, 1)) (zeros [(.str { data := #[] })] 1) [(0, v1)]).bind fun c => kbs 1 1 c h fun v57 h => kold h fun h0 => (kapp [(.str { data := #[] })] 1 16 v55 v57 h).bind fun r => kr r fun v58 h => krs (rs ++ [⟨12, h0.length, h.length, ⟨kblk v55 ++ kblk v57, kblk v55⟩⟩]) fun rs => (kia 1 v49 (.int .i64 0)).bind fun v59 => (kstore 1 h v59 v58).bind fun h => bif chk [(3, 12)] rs then G .nrm v4 h else none
theorem g9_0_eq {R : Type} (k : Nat) (G : KT1 R) (rs : List Rec) (σ : GS) (h : Heap) : kgroupsD PP cfg NN HH 60 o9 [(3, 12)] [(none, [0, 1, 2, 3, 4, 5, 6, 7, 8, 9, 10, 11, 12, 13, 14])] rs σ h (fun rs σ h => bif chk [(3, 12)] rs then G .nrm (σ 4) h else none) = g9_0 k G (σ 0) (σ 1) (σ 4) rs h := by kernel_rfl
@[simp] def n9 {R : Type} (k : Nat) (G : KT1 R) (v0 v1 v4 : GV) (h : Heap) : Option R := g9_0 k G v0 v1 v4 [] h
theorem n9_eq {R : Type} (k : Nat) (G : KT1 R) (σ : GS) (h : Heap) : KC k 60 c9 σ h (fun x σ h => G x (σ 4) h) = n9 k G (σ 0) (σ 1) (σ 4) h := (kregionD_eq (id := 7) (draw := true) (ops := o9) (gs := [(none, [0, 1, 2, 3, 4, 5, 6, 7, 8, 9, 10, 11, 12, 13, 14])]) (bad := [(3, 12)]) (by kernel_rfl) (by kernel_rfl) (by kernel_rfl) (by kernel_rfl) (by kernel_rfl)).trans (g9_0_eq k G [] σ h)
@[simp] def n7 {R : Type} (k : Nat) (G : KT1 R) (v0 v1 v4 v5 v37 : GV) (h : Heap) : Option R := kcond v37 (n8 k G v4 v5 h) (n9 k G v0 v1 v4 h)
theorem n7_eq {R : Type} (k : Nat) (G : KT1 R) (σ : GS) (h : Heap) : KC k 60 c7 σ h (fun x σ h => G x (σ 4) h) = n7 k G (σ 0) (σ 1) (σ 4) (σ 5) (σ 37) h := (kcond_eq (a := c8) (b := c9) rfl (by rfl)).trans (congr (congrArg (kcond (σ 37)) (n8_eq k G σ h)) (n9_eq k G σ h))
noncomputable def c10 : Code := cL c6
@[simp] def n6 {R : Type} (k : Nat) (G : KT1 R) (v0 v1 v4 v5 : GV) (h : Heap) : Option R := (knil v0).bind fun v33 => (kfa 0 v33).bind fun v34 => (kload1 h v34).bind fun v35 => (klen v35).bind fun v36 => (kbin .eql v36 (.int .i64 1)).bind fun v37 => n7 k G v0 v1 v4 v5 v37 h
theorem n6_eq0 {R : Type} (k : Nat) (G : KT1 R) (σ : GS) (h : Heap) : KC k 60 c10 σ h (fun x σ h => kx x (n7 k G (σ 0) (σ 1) (σ 4) (σ 5) (σ 37) h) (G x (σ 4) h)) = n6 k G (σ 0) (σ 1) (σ 4) (σ 5) h := by kernel_rfl
theorem n6_eq {R : Type} (k : Nat) (G : KT1 R) (σ : GS) (h : Heap) : KC k 60 c6 σ h (fun x σ h => G x (σ 4) h) = n6 k G (σ 0) (σ 1) (σ 4) (σ 5) h := (kseq (b := c7) rfl (fun σ h => n7_eq k G σ h)).trans (n6_eq0 k G σ h)
@[simp] def n4 {R : Type} (k : Nat) (G : KT1 R) (v0 v1 v4 v5 : GV) (h : Heap) : Option R := n6 k (fun x v4 h => kx x (n5 k G h) (G x v4 h)) v0 v1 v4 v5 h
theorem n4_eq {R : Type} (k : Nat) (G : KT1 R) (σ : GS) (h : Heap) : KC k 60 c4 σ h (fun x σ h => G x (σ 4) h) = n4 k G (σ 0) (σ 1) (σ 4) (σ 5) h := (kseq (b := c5) rfl (fun σ h => n5_eq k G σ h)).trans (n6_eq k (fun x v4 h => kx x (n5 k G h) (G x v4 h)) σ h)
noncomputable def c11 : Code := cL c3
@[simp] def n3 {R : Type} (k : Nat) (G : KT1 R) (v0 v1 v4 v5 : GV) (h : Heap) : Option R := (knil v5).bind fun v24 => (kfa 0 v24).bind fun v25 => (kload1 h v25).bind fun v26 => (gfill (fun i => some (i * 1, 1)) (zeros [(.str { data := #[] })] 1) [(0, v1)]).bind fun c => kbs 1 1 c h fun v28 h => (kapp [(.str { data := #[] })] 1 16 v26 v28 h).bind fun r => kr r fun v29 h => (knil v5).bind fun v30 => (kfa 0 v30).bind fun v31 => (kstore 1 h v31 v29).bind fun h => n4 k G v0 v1 v4 v5 h
theorem n3_eq0 {R : Type} (k : Nat) (G : KT1 R) (σ : GS) (h : Heap) : KC k 60 c11 σ h (fun x σ h => kx x (n4 k G (σ 0) (σ 1) (σ 4) (σ 5) h) (G x (σ 4) h)) = n3 k G (σ 0) (σ 1) (σ 4) (σ 5) h := by kernel_rfl
theorem n3_eq {R : Type} (k : Nat) (G : KT1 R) (σ : GS) (h : Heap) : KC k 60 c3 σ h (fun x σ h => G x (σ 4) h) = n3 k G (σ 0) (σ 1) (σ 4) (σ 5) h := (kseq (b := c4) rfl (fun σ h => n4_eq k G σ h)).trans (n3_eq0 k G σ h)
noncomputable def c12 : Code := cL c2
noncomputable def c13 : Code := cR c12
@[simp] def n13 {R : Type} (k : Nat) (G : KT4 R) (v0 v1 v4 v5 v21 : GV) (h : Heap) : Option R := kcond v21 (G .ret v0 v1 (.bool false) v5 h) (G .nrm v0 v1 v4 v5 h)
theorem n13_eq {R : Type} (k : Nat) (G : KT4 R) (σ : GS) (h : Heap) : KC k 60 c13 σ h (fun x σ h => G x (σ 0) (σ 1) (σ 4) (σ 5) h) = n13 k G (σ 0) (σ 1) (σ 4) (σ 5) (σ 21) h := by kernel_rfl
noncomputable def c14 : Code := cL c12
noncomputable def o14 : Array Oper := cO c14
@[simp] def g14_2 {R : Type} (k : Nat) (G : KT5 R) (v0 v1 v4 v5 v17 v20 : GV) (h : Heap) : Option R := (kpick v17 (.bool true) v20).bind fun v21 => G .nrm v0 v1 v4 v5 v21 h
theorem g14_2_eq {R : Type} (k : Nat) (G : KT5 R) (σ : GS) (h : Heap) : kgroups PP cfg NN HH 60 o14 [(none, [10])] σ h (fun σ h => G .nrm (σ 0) (σ 1) (σ 4) (σ 5) (σ 21) h) = g14_2 k G (σ 0) (σ 1) (σ 4) (σ 5) (σ 17) (σ 20) h := by kernel_rfl
@[simp] def g14_1 {R : Type} (k : Nat) (G : KT5 R) (v0 v1 v4 v5 v17 : GV) (h : Heap) : Option R := bif tr false v17 then (klenS v1).bind fun v19 => (kbin .gtr v19 (.int .i64 200)).bind fun v20 => g14_2 k G v0 v1 v4 v5 v17 v20 h else g14_2 k G v0 v1 v4 v5 v17 .un h
theorem g14_1_eq0 {R : Type} (k : Nat) (G : KT5 R) (σ : GS) (h : Heap) : kgroup1 PP cfg NN HH 60 o14 (some (6, false), [7, 8, 9]) σ h (fun σ h => g14_2 k G (σ 0) (σ 1) (σ 4) (σ 5) (σ 17) (σ 20) h) = g14_1 k G (σ 0) (σ 1) (σ 4) (σ 5) (σ 17) h := by kernel_rfl
theorem g14_1_eq {R : Type} (k : Nat) (G : KT5 R) (σ : GS) (h : Heap) : kgroups PP cfg NN HH 60 o14 [(some (6, false), [7, 8, 9]), (none, [10])] σ h (fun σ h => G .nrm (σ 0) (σ 1) (σ 4) (σ 5) (σ 21) h) = g14_1 k G (σ 0) (σ 1) (σ 4) (σ 5) (σ 17) h := (kgroups_cons (fun σ h => g14_2_eq k G σ h)).trans (g14_1_eq0 k G σ h)
@[simp] def g14_0 {R : Type} (k : Nat) (G : KT5 R) (v0 v1 v4 v5 : GV) (h : Heap) : Option R := (knil v5).bind fun v12 => (kfa 0 v12).bind fun v13 => (kload1 h v13).bind fun v14 => (klen v14).bind fun v15 => (kbin .eql v15 (.int .i64 60)).bind fun v16 => g14_1 k G v0 v1 v4 v5 v16 h
theorem g14_0_eq0 {R : Type} (k : Nat) (G : KT5 R) (σ : GS) (h : Heap) : kgroup1 PP cfg NN HH 60 o14 (none, [0, 1, 2, 3, 4, 5, 6]) σ h (fun σ h => g14_1 k G (σ 0) (σ 1) (σ 4) (σ 5) (σ 17) h) = g14_0 k G (σ 0) (σ 1) (σ 4) (σ 5) h := by kernel_rfl
theorem g14_0_eq {R : Type} (k : Nat) (G : KT5 R) (σ : GS) (h : Heap) : kgroups PP cfg NN HH 60 o14 [(none, [0, 1, 2, 3, 4, 5, 6]), (some (6, false), [7, 8, 9]), (none, [10])] σ h (fun σ h => G .nrm (σ 0) (σ 1) (σ 4) (σ 5) (σ 21) h) = g14_0 k G (σ 0) (σ 1) (σ 4) (σ 5) h := (kgroups_cons (fun σ h => g14_1_eq k G σ h)).trans (g14_0_eq0 k G σ h)
@[simp] def n14 {R : Type} (k : Nat) (G : KT5 R) (v0 v1 v4 v5 : GV) (h : Heap) : Option R := g14_0 k G v0 v1 v4 v5 h
theorem n14_eq {R : Type} (k : Nat) (G : KT5 R) (σ : GS) (h : Heap) : KC k 60 c14 σ h (fun x σ h => G x (σ 0) (σ 1) (σ 4) (σ 5) (σ 21) h) = n14 k G (σ 0) (σ 1) (σ 4) (σ 5) h := (kregion_eq (id := 2) (draw := false) (ops := o14) (gs := [(none, [0, 1, 2, 3, 4, 5, 6]), (some (6, false), [7, 8, 9]), (none, [10])]) (by kernel_rfl) (by kernel_rfl) (by kernel_rfl)).trans (g14_0_eq k G σ h)
@[simp] def n12 {R : Type} (k : Nat) (G : KT4 R) (v0 v1 v4 v5 : GV) (h : Heap) : Option R := n14 k (fun x v0 v1 v4 v5 v21 h => kx x (n13 k G v0 v1 v4 v5 v21 h) (G x v0 v1 v4 v5 h)) v0 v1 v4 v5 h
theorem n12_eq {R : Type} (k : Nat) (G : KT4 R) (σ : GS) (h : Heap) : KC k 60 c12 σ h (fun x σ h => G x (σ 0) (σ 1) (σ 4) (σ 5) h) = n12 k G (σ 0) (σ 1) (σ 4) (σ 5) h := (kseq (b := c13) rfl (fun σ h => n13_eq k G σ h)).trans (n14_eq k (fun x v0 v1 v4 v5 v21 h => kx x (n13 k G v0 v1 v4 v5 v21 h) (G x v0 v1 v4 v5 h)) σ h)
@[simp] def n2 {R : Type} (k : Nat) (G : KT1 R) (v0 v1 v4 v5 : GV) (h : Heap) : Option R := n12 k (fun x v0 v1 v4 v5 h => kx x (n3 k G v0 v1 v4 v5 h) (G x v4 h)) v0 v1 v4 v5 h
theorem n2_eq {R : Type} (k : Nat) (G : KT1 R) (σ : GS) (h : Heap) : KC k 60 c2 σ h (fun x σ h => G x (σ 4) h) = n2 k G (σ 0) (σ 1) (σ 4) (σ 5) h := (kseq (b := c3) rfl (fun σ h => n3_eq k G σ h)).trans (n12_eq k (fun x v0 v1 v4 v5 h => kx x (n3 k G v0 v1 v4 v5 h) (G x v4 h)) σ h)
noncomputable def c15 : Code := cL c1
@[simp] def n1 {R : Type} (k : Nat) (G : KT1 R) (v0 v1 v4 : GV) (h : Heap) : Option R := (knil v0).bind fun v7 => (kfa 0 v7).bind fun v8 => (kload1 h v8).bind fun v9 => (kia 2 v9 (.int .i64 0)).bind fun v10 => n2 k G v0 v1 v4 v10 h
theorem n1_eq0 {R : Type} (k : Nat) (G : KT1 R) (σ : GS) (h : Heap) : KC k 60 c15 σ h (fun x σ h => kx x (n2 k G (σ 0) (σ 1) (σ 4) (σ 5) h) (G x (σ 4) h)) = n1 k G (σ 0) (σ 1) (σ 4) h := by kernel_rfl
theorem n1_eq {R : Type} (k : Nat) (G : KT1 R) (σ : GS) (h : Heap) : KC k 60 c1 σ h (fun x σ h => G x (σ 4) h) = n1 k G (σ 0) (σ 1) (σ 4) h := (kseq (b := c2) rfl (fun σ h => n2_eq k G σ h)).trans (n1_eq0 k G σ h)
noncomputable def c16 : Code := cL c0
@[simp] def n0 {R : Type} (k : Nat) (G : KT1 R) (v0 v1 : GV) (h : Heap) : Option R := n1 k G v0 v1 (.bool false) h
theorem n0_eq0 {R : Type} (k : Nat) (G : KT1 R) (σ : GS) (h : Heap) : KC k 60 c16 σ h (fun x σ h => kx x (n1 k G (σ 0) (σ 1) (σ 4) h) (G x (σ 4) h)) = n0 k G (σ 0) (σ 1) h := by kernel_rfl
theorem n0_eq {R : Type} (k : Nat) (G : KT1 R) (σ : GS) (h : Heap) : KC k 60 c0 σ h (fun x σ h => G x (σ 4) h) = n0 k G (σ 0) (σ 1) h := (kseq (b := c1) rfl (fun σ h => n1_eq k G σ h)).trans (n0_eq0 k G σ h)
def run {R : Type} (k : Nat) (a0 : GV) (a1 : GV) (h : Heap) (fin : GV → Heap → Option R) : Option R := n0 k (fun x v4 h => kend x (fin v4 h)) a0 a1 h
theorem run_eq {R : Type} (k : Nat) (a0 : GV) (a1 : GV) (h : Heap) (fin : GV → Heap → Option R) : kfun PP cfg NN HH k fn.spec_l17Submit [a0, a1] h fin = run k a0 a1 h fin := (kfun_eq (nt := 60) (c := c0) (show PP.funcs[fn.spec_l17Submit]? = some Try.f76 by kernel_rfl) (by kernel_rfl) (by kernel_rfl) (fun x σ h => by cases x <;> kernel_rfl)).trans (n0_eq k (fun x v4 h => kend x (fin v4 h)) _ h)
theorem gives {k : Nat} {a0 : GV} {a1 : GV} {h : Heap} {r : GV × Heap} (e : run k a0 a1 h finH = some r) : HH fn.spec_l17Submit [a0, a1] h = some r := kω_of ((run_eq k a0 a1 h finH).trans e)
end S.spec_l17Submit
/-! impl_Submit_1 -/
namespace S.impl_Submit_1
noncomputable def c0 : Code := bodyOf Try.f77
noncomputable def c1 : Code := cR c0
noncomputable def c2 : Code := cR c1
noncomputable def c3 : Code := cR c2
noncomputable def c4 : Code := cR c3
noncomputable def c5 : Code := cR c4
@[simp] def n5 {R : Type} (k : Nat) (G : KT1 R) (h : Heap) : Option R := G .ret (.bool true) h
theorem n5_eq {R : Type} (k : Nat) (G : KT1 R) (σ : GS) (h : Heap) : KC k 57 c5 σ h (fun x σ h => G x (σ 3) h) = n5 k G h := by kernel_rfl
noncomputable def c6 : Code := cL c4
noncomputable def c7 : Code := cR c6
noncomputable def c8 : Code := cL c7
@[simp] def n8 {R : Type} (k : Nat) (G : KT1 R) (v3 v4 : GV) (h : Heap) : Option R := (knil v4).bind fun v37 => (kfa 1 v37).bind fun v38 => (kload1 h v38).bind fun v39 => (kbin .add v39 (.int .i64 1)).bind fun v40 => (knil v4).bind fun v41 => (kfa 1 v41).bind fun v42 => (kstore 1 h v42 v40).bind fun h => G .nrm v3 h
theorem n8_eq {R : Type} (k : Nat) (G : KT1 R) (σ : GS) (h : Heap) : KC k 57 c8 σ h (fun x σ h => G x (σ 3) h) = n8 k G (σ 3) (σ 4) h := by kernel_rfl
noncomputable def c9 : Code := cR c7
noncomputable def o9 : Array Oper := cO c9
@[simp] def g9_0 {R : Type} (k : Nat) (G : KT1 R) (v0 v1 v3 : GV) (rs : List Rec) (h : Heap) : Option R := (knil v0).bind fun v44 => (kfa 1 v44).bind fun v45 => kold h fun h0 => (kload1 h v45).bind fun v46 => krs (rs ++ [⟨3, h0.length, h.length, ⟨kblk v45, []⟩⟩]) fun rs => (knil v0).bind fun v48 => (kfa 1 v48).bind fun v49 => (kload1 h v49).bind fun v50 => (kia 1 v50 (.int .i64 0)).bind fun v51 => (kload1 h v51).bind fun v52 => (kload1 h v1).bind fun v53 => (gfill (fun i => some (i * 1, 1)) (zeros [(.str { data := #[] })] 1) [(0, v53)]).bind fun c => kbs 1 1 c h fun v54 h => kold h fun h0 => (kapp [(.str { data := #[] })] 1 16 v52 v54 h).bind fun r => kr r fun v55 h => krs (rs ++ [⟨12, h0.length, h.length, ⟨kblk v52 ++ kblk v54, kblk v52⟩⟩]) fun rs => (kia 1 v46 (.int .i64 0)).bind fun v56 => (kstore 1 h v56 v55).bind fun h => bif chk [(3, 12)] rs then G .nrm v3 h else none
theorem g9_0_eq {R : Type} (k : Nat) (G : KT1 R) (rs : List Rec) (σ : GS) (h : Heap) : kgroupsD PP cfg NN HH 57 o9 [(3, 12)] [(none, [0, 1, 2, 3, 4, 5, 6, 7, 8, 9, 10, 11, 12, 13, 14])] rs σ h (fun rs σ h => bif chk [(3, 12)] rs then G .nrm (σ 3) h else none) = g9_0 k G (σ 0) (σ 1) (σ 3) rs h := by kernel_rfl
@[simp] def n9 {R : Type} (k : Nat) (G : KT1 R) (v0 v1 v3 : GV) (h : Heap) : Option R := g9_0 k G v0 v1 v3 [] h
theorem n9_eq {R : Type} (k : Nat) (G : KT1 R) (σ : GS) (h : Heap) : KC k 57 c9 σ h (fun x σ h => G x (σ 3) h) = n9 k G (σ 0) (σ 1) (σ 3) h := (kregionD_eq (id := 7) (draw := true) (ops := o9) (gs := [(none, [0, 1, 2, 3, 4, 5, 6, 7, 8, 9, 10, 11, 12, 13, 14])]) (bad := [(3, 12)]) (by kernel_rfl) (by kernel_rfl) (by kernel_rfl) (by kernel_rfl) (by kernel_rfl)).trans (g9_0_eq k G [] σ h)
@[simp] def n7 {R : Type} (k : Nat) (G : KT1 R) (v0 v1 v3 v4 v35 : GV) (h : Heap) : Option R := kcond v35 (n8 k G v3 v4 h) (n9 k G v0 v1 v3 h)
theorem n7_eq {R : Type} (k : Nat) (G : KT1 R) (σ : GS) (h : Heap) : KC k 57 c7 σ h (fun x σ h => G x (σ 3) h) = n7 k G (σ 0) (σ 1) (σ 3) (σ 4) (σ 35) h := (kcond_eq (a := c8) (b := c9) rfl (by rfl)).trans (congr (congrArg (kcond (σ 35)) (n8_eq k G σ h)) (n9_eq k G σ h))
noncomputable def c10 : Code := cL c6
@[simp] def n6 {R : Type} (k : Nat) (G : KT1 R) (v0 v1 v3 v4 : GV) (h : Heap) : Option R := (knil v0).bind fun v32 => (kloadA 3 h v32).bind fun v33 => (kN NN fn.impl_Chain_last [v33] h).bind fun v34 => (kbin .eql v34 (.int .i64 0)).bind fun v35 => n7 k G v0 v1 v3 v4 v35 h
theorem n6_eq0 {R : Type} (k : Nat) (G : KT1 R) (σ : GS) (h : Heap) : KC k 57 c10 σ h (fun x σ h => kx x (n7 k G (σ 0) (σ 1) (σ 3) (σ 4) (σ 35) h) (G x (σ 3) h)) = n6 k G (σ 0) (σ 1) (σ 3) (σ 4) h := by kernel_rfl
theorem n6_eq {R : Type} (k : Nat) (G : KT1 R) (σ : GS) (h : Heap) : KC k 57 c6 σ h (fun x σ h => G x (σ 3) h) = n6 k G (σ 0) (σ 1) (σ 3) (σ 4) h := (kseq (b := c7) rfl (fun σ h => n7_eq k G σ h)).trans (n6_eq0 k G σ h)
@[simp] def n4 {R : Type} (k : Nat) (G : KT1 R) (v0 v1 v3 v4 : GV) (h : Heap) : Option R := n6 k (fun x v3 h => kx x (n5 k G h) (G x v3 h)) v0 v1 v3 v4 h
theorem n4_eq {R : Type} (k : Nat) (G : KT1 R) (σ : GS) (h : Heap) : KC k 57 c4 σ h (fun x σ h => G x (σ 3) h) = n4 k G (σ 0) (σ 1) (σ 3) (σ 4) h := (kseq (b := c5) rfl (fun σ h => n5_eq k G σ h)).trans (n6_eq k (fun x v3 h => kx x (n5 k G h) (G x v3 h)) σ h)
noncomputable def c11 : Code := cL c3
@[simp] def n3 {R : Type} (k : Nat) (G : KT1 R) (v0 v1 v3 v4 : GV) (h : Heap) : Option R := (knil v4).bind fun v23 => (kfa 0 v23).bind fun v24 => (kload1 h v24).bind fun v25 => (kload1 h v1).bind fun v26 => (gfill (fun i => some (i * 1, 1)) (zeros [(.str { data := #[] })] 1) [(0, v26)]).bind fun c => kbs 1 1 c h fun v27 h => (kapp [(.str { data := #[] })] 1 16 v25 v27 h).bind fun r => kr r fun v28 h => (knil v4).bind fun v29 => (kfa 0 v29).bind fun v30 => (kstore 1 h v30 v28).bind fun h => n4 k G v0 v1 v3 v4 h
theorem n3_eq0 {R : Type} (k : Nat) (G : KT1 R) (σ : GS) (h : Heap) : KC k 57 c11 σ h (fun x σ h => kx x (n4 k G (σ 0) (σ 1) (σ 3) (σ 4) h) (G x (σ 3) h)) = n3 k G (σ 0) (σ 1) (σ 3) (σ 4) h := by kernel_rfl
theorem n3_eq {R : Type} (k : Nat) (G : KT1 R) (σ : GS) (h : Heap) : KC k 57 c3 σ h (fun x σ h => G x (σ 3) h) = n3 k G (σ 0) (σ 1) (σ 3) (σ 4) h := (kseq (b := c4) rfl (fun σ h => n4_eq k G σ h)).trans (n3_eq0 k G σ h)
noncomputable def c12 : Code := cL c2
noncomputable def c13 : Code := cR c12
@[simp] def n13 {R : Type} (k : Nat) (G : KT4 R) (v0 v1 v3 v4 v20 : GV) (h : Heap) : Option R := kcond v20 (G .ret v0 v1 (.bool false) v4 h) (G .nrm v0 v1 v3 v4 h)
theorem n13_eq {R : Type} (k : Nat) (G : KT4 R) (σ : GS) (h : Heap) : KC k 57 c13 σ h (fun x σ h => G x (σ 0) (σ 1) (σ 3) (σ 4) h) = n13 k G (σ 0) (σ 1) (σ 3) (σ 4) (σ 20) h := by kernel_rfl
noncomputable def c14 : Code := cL c12
noncomputable def o14 : Array Oper := cO c14
@[simp] def g14_2 {R : Type} (k : Nat) (G : KT5 R) (v0 v1 v3 v4 v16 v19 : GV) (h : Heap) : Option R := (kpick v16 (.bool true) v19).bind fun v20 => G .nrm v0 v1 v3 v4 v20 h
theorem g14_2_eq {R : Type} (k : Nat) (G : KT5 R) (σ : GS) (h : Heap) : kgroups PP cfg NN HH 57 o14 [(none, [10])] σ h (fun σ h => G .nrm (σ 0) (σ 1) (σ 3) (σ 4) (σ 20) h) = g14_2 k G (σ 0) (σ 1) (σ 3) (σ 4) (σ 16) (σ 19) h := by kernel_rfl
@[simp] def g14_1 {R : Type} (k : Nat) (G : KT5 R) (v0 v1 v3 v4 v16 : GV) (h : Heap) : Option R := bif tr false v16 then (kload1 h v1).bind fun v17 => (klenS v17).bind fun v18 => (kbin .gtr v18 (.int .i64 200)).bind fun v19 => g14_2 k G v0 v1 v3 v4 v16 v19 h else g14_2 k G v0 v1 v3 v4 v16 .un h
theorem g14_1_eq0 {R : Type} (k : Nat) (G : KT5 R) (σ : GS) (h : Heap) : kgroup1 PP cfg NN HH 57 o14 (some (6, false), [7, 8, 9]) σ h (fun σ h => g14_2 k G (σ 0) (σ 1) (σ 3) (σ 4) (σ 16) (σ 19) h) = g14_1 k G (σ 0) (σ 1) (σ 3) (σ 4) (σ 16) h := by kernel_rfl
theorem g14_1_eq {R : Type} (k : Nat) (G : KT5 R) (σ : GS) (h : Heap) : kgroups PP cfg NN HH 57 o14 [(some (6, false), [7, 8, 9]), (none, [10])] σ h (fun σ h => G .nrm (σ 0) (σ 1) (σ 3) (σ 4) (σ 20) h) = g14_1 k G (σ 0) (σ 1) (σ 3) (σ 4) (σ 16) h := (kgroups_cons (fun σ h => g14_2_eq k G σ h)).trans (g14_1_eq0 k G σ h)
@[simp] def g14_0 {R : Type} (k : Nat) (G : KT5 R) (v0 v1 v3 v4 : GV) (h : Heap) : Option R := (knil v4).bind fun v11 => (kfa 0 v11).bind fun v12 => (kload1 h v12).bind fun v13 => (klen v13).bind fun v14 => (kbin .eql v14 (.int .i64 60)).bind fun v15 => g14_1 k G v0 v1 v3 v4 v15 h
theorem g14_0_eq0 {R : Type} (k : Nat) (G : KT5 R) (σ : GS) (h : Heap) : kgroup1 PP cfg NN HH 57 o14 (none, [0, 1, 2, 3, 4, 5, 6]) σ h (fun σ h => g14_1 k G (σ 0) (σ 1) (σ 3) (σ 4) (σ 16) h) = g14_0 k G (σ 0) (σ 1) (σ 3) (σ 4) h := by kernel_rfl
theorem g14_0_eq {R : Type} (k : Nat) (G : KT5 R) (σ : GS) (h : Heap) : kgroups PP cfg NN HH 57 o14 [(none, [0, 1, 2, 3, 4, 5, 6]), (some (6, false), [7, 8, 9]), (none, [10])] σ h (fun σ h => G .nrm (σ 0) (σ 1) (σ 3) (σ 4) (σ 20) h) = g14_0 k G (σ 0) (σ 1) (σ 3) (σ 4) h := (kgroups_cons (fun σ h => g14_1_eq k G σ h)).trans (g14_0_eq0 k G σ h)
@[simp] def n14 {R : Type} (k : Nat) (G : KT5 R) (v0 v1 v3 v4 : GV) (h : Heap) : Option R := g14_0 k G v0 v1 v3 v4 h
theorem n14_eq {R : Type} (k : Nat) (G : KT5 R) (σ : GS) (h : Heap) : KC k 57 c14 σ h (fun x σ h => G x (σ 0) (σ 1) (σ 3) (σ 4) (σ 20) h) = n14 k G (σ 0) (σ 1) (σ 3) (σ 4) h := (kregion_eq (id := 2) (draw := false) (ops := o14) (gs := [(none, [0, 1, 2, 3, 4, 5, 6]), (some (6, false), [7, 8, 9]), (none, [10])]) (by kernel_rfl) (by kernel_rfl) (by kernel_rfl)).trans (g14_0_eq k G σ h)
@[simp] def n12 {R : Type} (k : Nat) (G : KT4 R) (v0 v1 v3 v4 : GV) (h : Heap) : Option R := n14 k (fun x v0 v1 v3 v4 v20 h => kx x (n13 k G v0 v1 v3 v4 v20 h) (G x v0 v1 v3 v4 h)) v0 v1 v3 v4 h
theorem n12_eq {R : Type} (k : Nat) (G : KT4 R) (σ : GS) (h : Heap) : KC k 57 c12 σ h (fun x σ h => G x (σ 0) (σ 1) (σ 3) (σ 4) h) = n12 k G (σ 0) (σ 1) (σ 3) (σ 4) h := (kseq (b := c13) rfl (fun σ h => n13_eq k G σ h)).trans (n14_eq k (fun x v0 v1 v3 v4 v20 h => kx x (n13 k G v0 v1 v3 v4 v20 h) (G x v0 v1 v3 v4 h)) σ h)
@[simp] def n2 {R : Type} (k : Nat) (G : KT1 R) (v0 v1 v3 v4 : GV) (h : Heap) : Option R := n12 k (fun x v0 v1 v3 v4 h => kx x (n3 k G v0 v1 v3 v4 h) (G x v3 h)) v0 v1 v3 v4 h
theorem n2_eq {R : Type} (k : Nat) (G : KT1 R) (σ : GS) (h : Heap) : KC k 57 c2 σ h (fun x σ h => G x (σ 3) h) = n2 k G (σ 0) (σ 1) (σ 3) (σ 4) h := (kseq (b := c3) rfl (fun σ h => n3_eq k G σ h)).trans (n12_eq k (fun x v0 v1 v3 v4 h => kx x (n3 k G v0 v1 v3 v4 h) (G x v3 h)) σ h)
noncomputable def c15 : Code := cL c1
@[simp] def n1 {R : Type} (k : Nat) (G : KT1 R) (v0 v1 v3 : GV) (h : Heap) : Option R := (knil v0).bind fun v6 => (kfa 0 v6).bind fun v7 => (kload1 h v7).bind fun v8 => (kia 2 v8 (.int .i64 0)).bind fun v9 => n2 k G v0 v1 v3 v9 h
theorem n1_eq0 {R : Type} (k : Nat) (G : KT1 R) (σ : GS) (h : Heap) : KC k 57 c15 σ h (fun x σ h => kx x (n2 k G (σ 0) (σ 1) (σ 3) (σ 4) h) (G x (σ 3) h)) = n1 k G (σ 0) (σ 1) (σ 3) h := by kernel_rfl
theorem n1_eq {R : Type} (k : Nat) (G : KT1 R) (σ : GS) (h : Heap) : KC k 57 c1 σ h (fun x σ h => G x (σ 3) h) = n1 k G (σ 0) (σ 1) (σ 3) h := (kseq (b := c2) rfl (fun σ h => n2_eq k G σ h)).trans (n1_eq0 k G σ h)
noncomputable def c16 : Code := cL c0
@[simp] def n0 {R : Type} (k : Nat) (G : KT1 R) (v0 v1 : GV) (h : Heap) : Option R := n1 k G v0 v1 (.bool false) h
theorem n0_eq0 {R : Type} (k : Nat) (G : KT1 R) (σ : GS) (h : Heap) : KC k 57 c16 σ h (fun x σ h => kx x (n1 k G (σ 0) (σ 1) (σ 3) h) (G x (σ 3) h)) = n0 k G (σ 0) (σ 1) h := by kernel_rfl
theorem n0_eq {R : Type} (k : Nat) (G : KT1 R) (σ : GS) (h : Heap) : KC k 57 c0 σ h (fun x σ h => G x (σ 3) h) = n0 k G (σ 0) (σ 1) h := (kseq (b := c1) rfl (fun σ h => n1_eq k G σ h)).trans (n0_eq0 k G σ h)
def run {R : Type} (k : Nat) (a0 : GV) (a1 : GV) (h : Heap) (fin : GV → Heap → Option R) : Option R := n0 k (fun x v3 h => kend x (fin v3 h)) a0 a1 h
theorem run_eq {R : Type} (k : Nat) (a0 : GV) (a1 : GV) (h : Heap) (fin : GV → Heap → Option R) : kfun PP cfg NN HH k fn.impl_Submit_1 [a0, a1] h fin = run k a0 a1 h fin := (kfun_eq (nt := 57) (c := c0) (show PP.funcs[fn.impl_Submit_1]? = some Try.f77 by kernel_rfl) (by kernel_rfl) (by kernel_rfl) (fun x σ h => by cases x <;> kernel_rfl)).trans (n0_eq k (fun x v3 h => kend x (fin v3 h)) _ h)
theorem gives {k : Nat} {a0 : GV} {a1 : GV} {h : Heap} {r : GV × Heap} (e : run k a0 a1 h finH = some r) : HH fn.impl_Submit_1 [a0, a1] h = some r := kω_of ((run_eq k a0 a1 h finH).trans e)
end S.impl_Submit_1
end
end Go.Proofs.Ytopmnigfklgnkaa.G
