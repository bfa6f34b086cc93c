/- What these functions do, told for open values, out of the machine with continuations. Printed by a program of this session. -/
import Derived.Test.YtopmnigfklgnkaaSA1
import Derived.KernelRfl
namespace Go.Proofs.Ytopmnigfklgnkaa.G
open Go.RowKit
set_option linter.unusedVariables false
set_option maxRecDepth 100000
noncomputable section
/-! impl_Chain_tell -/
namespace S.impl_Chain_tell
noncomputable def c0 : Code := bodyOf Try.f81
noncomputable def c1 : Code := cR c0
noncomputable def c2 : Code := cL c1
noncomputable def o2 : Array Oper := cO c2
@[simp] def g2_0 {R : Type} (k : Nat) (G : GX → Heap → Option R) (v0 : GV) (v1 : GV) (rs : List Rec) (h : Heap) : Option R := (knil v0).bind fun v7 => (kfa 2 v7).bind fun v8 => kold h fun h0 => (kload1 h v8).bind fun v9 => krs (rs ++ [⟨3, h0.length, h.length, ⟨kblk v8, []⟩⟩]) fun rs => (kbin .sub v1 (.int .i64 1)).bind fun v11 => (knil v0).bind fun v13 => (kfa 2 v13).bind fun v14 => (kload1 h v14).bind fun v15 => (kbin .sub v1 (.int .i64 1)).bind fun v17 => (kia 1 v15 v17).bind fun v18 => (kload1 h v18).bind fun v19 => (knil v0).bind fun v21 => (kfa 0 v21).bind fun v22 => (kload1 h v22).bind fun v23 => (kia 2 v23 v1).bind fun v25 => (kfa 1 v25).bind fun v26 => (kload1 h v26).bind fun v27 => (gfill (fun i => some (i * 1, 1)) (zeros [(.int .i64 0)] 1) [(0, v27)]).bind fun c => kbs 1 1 c h fun v28 h => kold h fun h0 => (kapp [(.int .i64 0)] 1 8 v19 v28 h).bind fun r => kr r fun v29 h => krs (rs ++ [⟨23, h0.length, h.length, ⟨kblk v19 ++ kblk v28, kblk v19⟩⟩]) fun rs => (kia 1 v9 v11).bind fun v30 => (kstore 1 h v30 v29).bind fun h => bif chk [(3, 23)] rs then G .nrm h else none
theorem g2_0_eq {R : Type} (k : Nat) (G : GX → Heap → Option R) (rs : List Rec) (σ : GS) (h : Heap) : kgroupsD PP cfg NN HH 31 o2 [(3, 23)] [(none, [0, 1, 2, 3, 4, 5, 6, 7, 8, 9, 10, 11, 12, 13, 14, 15, 16, 17, 18, 19, 20, 21, 22, 23, 24, 25])] rs σ h (fun rs σ h => bif chk [(3, 23)] rs then G .nrm h else none) = g2_0 k G (σ 0) (σ 1) rs h := by kernel_rfl
@[simp] def n2 {R : Type} (k : Nat) (G : GX → Heap → Option R) (v0 : GV) (v1 : GV) (h : Heap) : Option R := g2_0 k G v0 v1 [] h
theorem n2_eq {R : Type} (k : Nat) (G : GX → Heap → Option R) (σ : GS) (h : Heap) : KC k 31 c2 σ h (fun x σ h => G x h) = n2 k G (σ 0) (σ 1) h := (kregionD_eq (id := 1) (draw := true) (ops := o2) (gs := [(none, [0, 1, 2, 3, 4, 5, 6, 7, 8, 9, 10, 11, 12, 13, 14, 15, 16, 17, 18, 19, 20, 21, 22, 23, 24, 25])]) (bad := [(3, 23)]) (by kernel_rfl) (by kernel_rfl) (by kernel_rfl) (by kernel_rfl) (by kernel_rfl)).trans (g2_0_eq k G [] σ h)
noncomputable def c3 : Code := cR c1
@[simp] def n3 {R : Type} (k : Nat) (G : GX → Heap → Option R) (h : Heap) : Option R := G .nrm h
theorem n3_eq {R : Type} (k : Nat) (G : GX → Heap → Option R) (σ : GS) (h : Heap) : KC k 31 c3 σ h (fun x σ h => G x h) = n3 k G h := by kernel_rfl
@[simp] def n1 {R : Type} (k : Nat) (G : GX → Heap → Option R) (v0 : GV) (v1 : GV) (v5 : GV) (h : Heap) : Option R := kcond v5 (n2 k G v0 v1 h) (n3 k G h)
theorem n1_eq {R : Type} (k : Nat) (G : GX → Heap → Option R) (σ : GS) (h : Heap) : KC k 31 c1 σ h (fun x σ h => G x h) = n1 k G (σ 0) (σ 1) (σ 5) h := (kcond_eq (a := c2) (b := c3) rfl (by rfl)).trans (congr (congrArg (kcond (σ 5)) (n2_eq k G σ h)) (n3_eq k G σ h))
noncomputable def c4 : Code := cL c0
@[simp] def n0 {R : Type} (k : Nat) (G : GX → Heap → Option R) (v0 : GV) (v1 : GV) (h : Heap) : Option R := (kbin .gtr v1 (.int .i64 0)).bind fun v5 => n1 k G v0 v1 v5 h
theorem n0_eq0 {R : Type} (k : Nat) (G : GX → Heap → Option R) (σ : GS) (h : Heap) : KC k 31 c4 σ h (fun x σ h => kx x (n1 k G (σ 0) (σ 1) (σ 5) h) (G x h)) = n0 k G (σ 0) (σ 1) h := by kernel_rfl
theorem n0_eq {R : Type} (k : Nat) (G : GX → Heap → Option R) (σ : GS) (h : Heap) : KC k 31 c0 σ h (fun x σ h => G x h) = n0 k G (σ 0) (σ 1) h := (kseq (b := c1) rfl (fun σ h => n1_eq k G σ h)).trans (n0_eq0 k G σ h)
def run {R : Type} (k : Nat) (a0 : GV) (a1 : GV) (h : Heap) (fin : GV → Heap → Option R) : Option R := n0 k (fun x h => kend x (fin (.tup []) h)) a0 a1 h
theorem run_eq {R : Type} (k : Nat) (a0 : GV) (a1 : GV) (h : Heap) (fin : GV → Heap → Option R) : kfun PP cfg NN HH k fn.impl_Chain_tell [a0, a1] h fin = run k a0 a1 h fin := (kfun_eq (nt := 31) (c := c0) (show PP.funcs[fn.impl_Chain_tell]? = some Try.f81 by kernel_rfl) (by kernel_rfl) (by kernel_rfl) (fun x σ h => by cases x <;> kernel_rfl)).trans (n0_eq k (fun x h => kend x (fin (.tup []) h)) _ h)
theorem gives {k : Nat} {a0 : GV} {a1 : GV} {h : Heap} {r : GV × Heap} (e : run k a0 a1 h finH = some r) : HH fn.impl_Chain_tell [a0, a1] h = some r := kω_of ((run_eq k a0 a1 h finH).trans e)
end S.impl_Chain_tell
/-! spec_l17Carry -/
namespace S.spec_l17Carry
noncomputable def c0 : Code := bodyOf Try.f82
noncomputable def c1 : Code := cR c0
noncomputable def c2 : Code := cR c1
noncomputable def c3 : Code := cR c2
noncomputable def c4 : Code := cR c3
noncomputable def c5 : Code := cR c4
noncomputable def c6 : Code := cR c5
noncomputable def c7 : Code := cR c6
@[simp] def n7 {R : Type} (k : Nat) (G : GX → GV → Heap → Option R) (h : Heap) : Option R := G .ret (.bool true) h
theorem n7_eq {R : Type} (k : Nat) (G : GX → GV → Heap → Option R) (σ : GS) (h : Heap) : KC k 121 c7 σ h (fun x σ h => G x (σ 4) h) = n7 k G h := by kernel_rfl
noncomputable def c8 : Code := cL c6
noncomputable def c9 : Code := cR c8
noncomputable def c10 : Code := cL c9
noncomputable def o10 : Array Oper := cO c10
@[simp] def g10_0 {R : Type} (k : Nat) (G : GX → GV → Heap → Option R) (v0 : GV) (v1 : GV) (v4 : GV) (v5 : GV) (rs : List Rec) (h : Heap) : Option R := (knil v0).bind fun v77 => (kfa 1 v77).bind fun v78 => kold h fun h0 => (kload1 h v78).bind fun v79 => krs (rs ++ [⟨3, h0.length, h.length, ⟨kblk v78, []⟩⟩]) fun rs => (kbin .add v1 (.int .i64 1)).bind fun v81 => (knil v0).bind fun v83 => (kfa 1 v83).bind fun v84 => (kload1 h v84).bind fun v85 => (kbin .add v1 (.int .i64 1)).bind fun v87 => (kia 1 v85 v87).bind fun v88 => (kload1 h v88).bind fun v89 => (gfill (fun i => some (i * 1, 1)) (zeros [(.str { data := #[] })] 1) [(0, v5)]).bind fun c => kbs 1 1 c h fun v91 h => kold h fun h0 => (kapp [(.str { data := #[] })] 1 16 v89 v91 h).bind fun r => kr r fun v92 h => krs (rs ++ [⟨16, h0.length, h.length, ⟨kblk v89 ++ kblk v91, kblk v89⟩⟩]) fun rs => (kia 1 v79 v81).bind fun v93 => (kstore 1 h v93 v92).bind fun h => bif chk [(3, 16)] rs then G .nrm v4 h else none
theorem g10_0_eq {R : Type} (k : Nat) (G : GX → GV → Heap → Option R) (rs : List Rec) (σ : GS) (h : Heap) : kgroupsD PP cfg NN HH 121 o10 [(3, 16)] [(none, [0, 1, 2, 3, 4, 5, 6, 7, 8, 9, 10, 11, 12, 13, 14, 15, 16, 17, 18])] rs σ h (fun rs σ h => bif chk [(3, 16)] rs then G .nrm (σ 4) h else none) = g10_0 k G (σ 0) (σ 1) (σ 4) (σ 5) rs h := by kernel_rfl
@[simp] def n10 {R : Type} (k : Nat) (G : GX → GV → Heap → Option R) (v0 : GV) (v1 : GV) (v4 : GV) (v5 : GV) (h : Heap) : Option R := g10_0 k G v0 v1 v4 v5 [] h
theorem n10_eq {R : Type} (k : Nat) (G : GX → GV → Heap → Option R) (σ : GS) (h : Heap) : KC k 121 c10 σ h (fun x σ h => G x (σ 4) h) = n10 k G (σ 0) (σ 1) (σ 4) (σ 5) h := (kregionD_eq (id := 8) (draw := true) (ops := o10) (gs := [(none, [0, 1, 2, 3, 4, 5, 6, 7, 8, 9, 10, 11, 12, 13, 14, 15, 16, 17, 18])]) (bad := [(3, 16)]) (by kernel_rfl) (by kernel_rfl) (by kernel_rfl) (by kernel_rfl) (by kernel_rfl)).trans (g10_0_eq k G [] σ h)
noncomputable def c11 : Code := cR c9
noncomputable def c12 : Code := cR c11
noncomputable def o12 : Array Oper := cO c12
@[simp] def g12_0 {R : Type} (k : Nat) (G : GX → GV → Heap → Option R) (v0 : GV) (v1 : GV) (v4 : GV) (v6 : GV) (rs : List Rec) (h : Heap) : Option R := (knil v0).bind fun v103 => (kfa 2 v103).bind fun v104 => kold h fun h0 => (kload1 h v104).bind fun v105 => krs (rs ++ [⟨3, h0.length, h.length, ⟨kblk v104, []⟩⟩]) fun rs => (knil v0).bind fun v108 => (kfa 2 v108).bind fun v109 => (kload1 h v109).bind fun v110 => (kia 1 v110 v1).bind fun v112 => (kload1 h v112).bind fun v113 => (knil v6).bind fun v115 => (kfa 1 v115).bind fun v116 => (kload1 h v116).bind fun v117 => (gfill (fun i => some (i * 1, 1)) (zeros [(.int .i64 0)] 1) [(0, v117)]).bind fun c => kbs 1 1 c h fun v118 h => kold h fun h0 => (kapp [(.int .i64 0)] 1 8 v113 v118 h).bind fun r => kr r fun v119 h => krs (rs ++ [⟨17, h0.length, h.length, ⟨kblk v113 ++ kblk v118, kblk v113⟩⟩]) fun rs => (kia 1 v105 v1).bind fun v120 => (kstore 1 h v120 v119).bind fun h => bif chk [(3, 17)] rs then G .nrm v4 h else none
theorem g12_0_eq {R : Type} (k : Nat) (G : GX → GV → Heap → Option R) (rs : List Rec) (σ : GS) (h : Heap) : kgroupsD PP cfg NN HH 121 o12 [(3, 17)] [(none, [0, 1, 2, 3, 4, 5, 6, 7, 8, 9, 10, 11, 12, 13, 14, 15, 16, 17, 18, 19])] rs σ h (fun rs σ h => bif chk [(3, 17)] rs then G .nrm (σ 4) h else none) = g12_0 k G (σ 0) (σ 1) (σ 4) (σ 6) rs h := by kernel_rfl
@[simp] def n12 {R : Type} (k : Nat) (G : GX → GV → Heap → Option R) (v0 : GV) (v1 : GV) (v4 : GV) (v6 : GV) (h : Heap) : Option R := g12_0 k G v0 v1 v4 v6 [] h
theorem n12_eq {R : Type} (k : Nat) (G : GX → GV → Heap → Option R) (σ : GS) (h : Heap) : KC k 121 c12 σ h (fun x σ h => G x (σ 4) h) = n12 k G (σ 0) (σ 1) (σ 4) (σ 6) h := (kregionD_eq (id := 10) (draw := true) (ops := o12) (gs := [(none, [0, 1, 2, 3, 4, 5, 6, 7, 8, 9, 10, 11, 12, 13, 14, 15, 16, 17, 18, 19])]) (bad := [(3, 17)]) (by kernel_rfl) (by kernel_rfl) (by kernel_rfl) (by kernel_rfl) (by kernel_rfl)).trans (g12_0_eq k G [] σ h)
noncomputable def c13 : Code := cL c11
@[simp] def n11 {R : Type} (k : Nat) (G : GX → GV → Heap → Option R) (v0 : GV) (v1 : GV) (v4 : GV) (v6 : GV) (h : Heap) : Option R := (knil v6).bind fun v96 => (kfa 1 v96).bind fun v97 => (kload1 h v97).bind fun v98 => (kbin .add v98 (.int .i64 1)).bind fun v99 => (knil v6).bind fun v100 => (kfa 1 v100).bind fun v101 => (kstore 1 h v101 v99).bind fun h => n12 k G v0 v1 v4 v6 h
theorem n11_eq0 {R : Type} (k : Nat) (G : GX → GV → Heap → Option R) (σ : GS) (h : Heap) : KC k 121 c13 σ h (fun x σ h => kx x (n12 k G (σ 0) (σ 1) (σ 4) (σ 6) h) (G x (σ 4) h)) = n11 k G (σ 0) (σ 1) (σ 4) (σ 6) h := by kernel_rfl
theorem n11_eq {R : Type} (k : Nat) (G : GX → GV → Heap → Option R) (σ : GS) (h : Heap) : KC k 121 c11 σ h (fun x σ h => G x (σ 4) h) = n11 k G (σ 0) (σ 1) (σ 4) (σ 6) h := (kseq (b := c12) rfl (fun σ h => n12_eq k G σ h)).trans (n11_eq0 k G σ h)
@[simp] def n9 {R : Type} (k : Nat) (G : GX → GV → Heap → Option R) (v0 : GV) (v1 : GV) (v4 : GV) (v5 : GV) (v6 : GV) (v75 : GV) (h : Heap) : Option R := kcond v75 (n10 k G v0 v1 v4 v5 h) (n11 k G v0 v1 v4 v6 h)
theorem n9_eq {R : Type} (k : Nat) (G : GX → GV → Heap → Option R) (σ : GS) (h : Heap) : KC k 121 c9 σ h (fun x σ h => G x (σ 4) h) = n9 k G (σ 0) (σ 1) (σ 4) (σ 5) (σ 6) (σ 75) h := (kcond_eq (a := c10) (b := c11) rfl (by rfl)).trans (congr (congrArg (kcond (σ 75)) (n10_eq k G σ h)) (n11_eq k G σ h))
noncomputable def c14 : Code := cL c8
@[simp] def n8 {R : Type} (k : Nat) (G : GX → GV → Heap → Option R) (v0 : GV) (v1 : GV) (v4 : GV) (v5 : GV) (v6 : GV) (h : Heap) : Option R := (kbin .add v1 (.int .i64 1)).bind fun v69 => (knil v0).bind fun v71 => (kfa 1 v71).bind fun v72 => (kload1 h v72).bind fun v73 => (klen v73).bind fun v74 => (kbin .lss v69 v74).bind fun v75 => n9 k G v0 v1 v4 v5 v6 v75 h
theorem n8_eq0 {R : Type} (k : Nat) (G : GX → GV → Heap → Option R) (σ : GS) (h : Heap) : KC k 121 c14 σ h (fun x σ h => kx x (n9 k G (σ 0) (σ 1) (σ 4) (σ 5) (σ 6) (σ 75) h) (G x (σ 4) h)) = n8 k G (σ 0) (σ 1) (σ 4) (σ 5) (σ 6) h := by kernel_rfl
theorem n8_eq {R : Type} (k : Nat) (G : GX → GV → Heap → Option R) (σ : GS) (h : Heap) : KC k 121 c8 σ h (fun x σ h => G x (σ 4) h) = n8 k G (σ 0) (σ 1) (σ 4) (σ 5) (σ 6) h := (kseq (b := c9) rfl (fun σ h => n9_eq k G σ h)).trans (n8_eq0 k G σ h)
@[simp] def n6 {R : Type} (k : Nat) (G : GX → GV → Heap → Option R) (v0 : GV) (v1 : GV) (v4 : GV) (v5 : GV) (v6 : GV) (h : Heap) : Option R := n8 k (fun x v4 h => kx x (n7 k G h) (G x v4 h)) v0 v1 v4 v5 v6 h
theorem n6_eq {R : Type} (k : Nat) (G : GX → GV → Heap → Option R) (σ : GS) (h : Heap) : KC k 121 c6 σ h (fun x σ h => G x (σ 4) h) = n6 k G (σ 0) (σ 1) (σ 4) (σ 5) (σ 6) h := (kseq (b := c7) rfl (fun σ h => n7_eq k G σ h)).trans (n8_eq k (fun x v4 h => kx x (n7 k G h) (G x v4 h)) σ h)
noncomputable def c15 : Code := cL c5
@[simp] def n5 {R : Type} (k : Nat) (G : GX → GV → Heap → Option R) (v0 : GV) (v1 : GV) (v4 : GV) (v5 : GV) (v6 : GV) (h : Heap) : Option R := (knil v6).bind fun v60 => (kfa 0 v60).bind fun v61 => (kload1 h v61).bind fun v62 => (gfill (fun i => some (i * 1, 1)) (zeros [(.str { data := #[] })] 1) [(0, v5)]).bind fun c => kbs 1 1 c h fun v64 h => (kapp [(.str { data := #[] })] 1 16 v62 v64 h).bind fun r => kr r fun v65 h => (knil v6).bind fun v66 => (kfa 0 v66).bind fun v67 => (kstore 1 h v67 v65).bind fun h => n6 k G v0 v1 v4 v5 v6 h
theorem n5_eq0 {R : Type} (k : Nat) (G : GX → GV → Heap → Option R) (σ : GS) (h : Heap) : KC k 121 c15 σ h (fun x σ h => kx x (n6 k G (σ 0) (σ 1) (σ 4) (σ 5) (σ 6) h) (G x (σ 4) h)) = n5 k G (σ 0) (σ 1) (σ 4) (σ 5) (σ 6) h := by kernel_rfl
theorem n5_eq {R : Type} (k : Nat) (G : GX → GV → Heap → Option R) (σ : GS) (h : Heap) : KC k 121 c5 σ h (fun x σ h => G x (σ 4) h) = n5 k G (σ 0) (σ 1) (σ 4) (σ 5) (σ 6) h := (kseq (b := c6) rfl (fun σ h => n6_eq k G σ h)).trans (n5_eq0 k G σ h)
noncomputable def c16 : Code := cL c4
@[simp] def n4 {R : Type} (k : Nat) (G : GX → GV → Heap → Option R) (v0 : GV) (v1 : GV) (v4 : GV) (v5 : GV) (h : Heap) : Option R := (knil v0).bind fun v52 => (kfa 0 v52).bind fun v53 => (kload1 h v53).bind fun v54 => (kbin .add v1 (.int .i64 1)).bind fun v56 => (kia 2 v54 v56).bind fun v57 => n5 k G v0 v1 v4 v5 v57 h
theorem n4_eq0 {R : Type} (k : Nat) (G : GX → GV → Heap → Option R) (σ : GS) (h : Heap) : KC k 121 c16 σ h (fun x σ h => kx x (n5 k G (σ 0) (σ 1) (σ 4) (σ 5) (σ 6) h) (G x (σ 4) h)) = n4 k G (σ 0) (σ 1) (σ 4) (σ 5) h := by kernel_rfl
theorem n4_eq {R : Type} (k : Nat) (G : GX → GV → Heap → Option R) (σ : GS) (h : Heap) : KC k 121 c4 σ h (fun x σ h => G x (σ 4) h) = n4 k G (σ 0) (σ 1) (σ 4) (σ 5) h := (kseq (b := c5) rfl (fun σ h => n5_eq k G σ h)).trans (n4_eq0 k G σ h)
noncomputable def c17 : Code := cL c3
@[simp] def n3 {R : Type} (k : Nat) (G : GX → GV → Heap → Option R) (v0 : GV) (v1 : GV) (v4 : GV) (v5 : GV) (h : Heap) : Option R := (knil v0).bind fun v37 => (kfa 1 v37).bind fun v38 => (kload1 h v38).bind fun v39 => (knil v0).bind fun v42 => (kfa 1 v42).bind fun v43 => (kload1 h v43).bind fun v44 => (kia 1 v44 v1).bind fun v46 => (kload1 h v46).bind fun v47 => (ksl 1 v47 (some (.int .i64 1)) none none).bind fun v48 => (kF false HH fn.spec_l17Texts [v48] h).bind fun r => kr r fun v49 h => (kia 1 v39 v1).bind fun v50 => (kstore 1 h v50 v49).bind fun h => n4 k G v0 v1 v4 v5 h
theorem n3_eq0 {R : Type} (k : Nat) (G : GX → GV → Heap → Option R) (σ : GS) (h : Heap) : KC k 121 c17 σ h (fun x σ h => kx x (n4 k G (σ 0) (σ 1) (σ 4) (σ 5) h) (G x (σ 4) h)) = n3 k G (σ 0) (σ 1) (σ 4) (σ 5) h := by kernel_rfl
theorem n3_eq {R : Type} (k : Nat) (G : GX → GV → Heap → Option R) (σ : GS) (h : Heap) : KC k 121 c3 σ h (fun x σ h => G x (σ 4) h) = n3 k G (σ 0) (σ 1) (σ 4) (σ 5) h := (kseq (b := c4) rfl (fun σ h => n4_eq k G σ h)).trans (n3_eq0 k G σ h)
noncomputable def c18 : Code := cL c2
@[simp] def n2 {R : Type} (k : Nat) (G : GX → GV → Heap → Option R) (v0 : GV) (v1 : GV) (v4 : GV) (h : Heap) : Option R := (knil v0).bind fun v28 => (kfa 1 v28).bind fun v29 => (kload1 h v29).bind fun v30 => (kia 1 v30 v1).bind fun v32 => (kload1 h v32).bind fun v33 => (kia 1 v33 (.int .i64 0)).bind fun v34 => (kload1 h v34).bind fun v35 => n3 k G v0 v1 v4 v35 h
theorem n2_eq0 {R : Type} (k : Nat) (G : GX → GV → Heap → Option R) (σ : GS) (h : Heap) : KC k 121 c18 σ h (fun x σ h => kx x (n3 k G (σ 0) (σ 1) (σ 4) (σ 5) h) (G x (σ 4) h)) = n2 k G (σ 0) (σ 1) (σ 4) h := by kernel_rfl
theorem n2_eq {R : Type} (k : Nat) (G : GX → GV → Heap → Option R) (σ : GS) (h : Heap) : KC k 121 c2 σ h (fun x σ h => G x (σ 4) h) = n2 k G (σ 0) (σ 1) (σ 4) h := (kseq (b := c3) rfl (fun σ h => n3_eq k G σ h)).trans (n2_eq0 k G σ h)
noncomputable def c19 : Code := cL c1
noncomputable def c20 : Code := cR c19
@[simp] def n20 {R : Type} (k : Nat) (G : GX → GV → GV → GV → Heap → Option R) (v0 : GV) (v1 : GV) (v4 : GV) (v26 : GV) (h : Heap) : Option R := kcond v26 (G .ret v0 v1 (.bool false) h) (G .nrm v0 v1 v4 h)
theorem n20_eq {R : Type} (k : Nat) (G : GX → GV → GV → GV → Heap → Option R) (σ : GS) (h : Heap) : KC k 121 c20 σ h (fun x σ h => G x (σ 0) (σ 1) (σ 4) h) = n20 k G (σ 0) (σ 1) (σ 4) (σ 26) h := by kernel_rfl
noncomputable def c21 : Code := cL c19
noncomputable def o21 : Array Oper := cO c21
@[simp] def g21_2 {R : Type} (k : Nat) (G : GX → GV → GV → GV → GV → Heap → Option R) (v0 : GV) (v1 : GV) (v4 : GV) (v16 : GV) (v25 : GV) (h : Heap) : Option R := (kpick v16 (.bool true) v25).bind fun v26 => G .nrm v0 v1 v4 v26 h
theorem g21_2_eq {R : Type} (k : Nat) (G : GX → GV → GV → GV → GV → Heap → Option R) (σ : GS) (h : Heap) : kgroups PP cfg NN HH 121 o21 [(none, [19])] σ h (fun σ h => G .nrm (σ 0) (σ 1) (σ 4) (σ 26) h) = g21_2 k G (σ 0) (σ 1) (σ 4) (σ 16) (σ 25) h := by kernel_rfl
@[simp] def g21_1 {R : Type} (k : Nat) (G : GX → GV → GV → GV → GV → Heap → Option R) (v0 : GV) (v1 : GV) (v4 : GV) (v16 : GV) (h : Heap) : Option R := bif tr false v16 then (knil v0).bind fun v18 => (kfa 1 v18).bind fun v19 => (kload1 h v19).bind fun v20 => (kia 1 v20 v1).bind fun v22 => (kload1 h v22).bind fun v23 => (klen v23).bind fun v24 => (kbin .eql v24 (.int .i64 0)).bind fun v25 => g21_2 k G v0 v1 v4 v16 v25 h else g21_2 k G v0 v1 v4 v16 .un h
theorem g21_1_eq0 {R : Type} (k : Nat) (G : GX → GV → GV → GV → GV → Heap → Option R) (σ : GS) (h : Heap) : kgroup1 PP cfg NN HH 121 o21 (some (9, false), [10, 11, 12, 13, 14, 15, 16, 17, 18]) σ h (fun σ h => g21_2 k G (σ 0) (σ 1) (σ 4) (σ 16) (σ 25) h) = g21_1 k G (σ 0) (σ 1) (σ 4) (σ 16) h := by kernel_rfl
theorem g21_1_eq {R : Type} (k : Nat) (G : GX → GV → GV → GV → GV → Heap → Option R) (σ : GS) (h : Heap) : kgroups PP cfg NN HH 121 o21 [(some (9, false), [10, 11, 12, 13, 14, 15, 16, 17, 18]), (none, [19])] σ h (fun σ h => G .nrm (σ 0) (σ 1) (σ 4) (σ 26) h) = g21_1 k G (σ 0) (σ 1) (σ 4) (σ 16) h := (kgroups_cons (fun σ h => g21_2_eq k G σ h)).trans (g21_1_eq0 k G σ h)
@[simp] def g21_0 {R : Type} (k : Nat) (G : GX → GV → GV → GV → GV → Heap → Option R) (v0 : GV) (v1 : GV) (v4 : GV) (h : Heap) : Option R := (knil v0).bind fun v9 => (kfa 1 v9).bind fun v10 => (kload1 h v10).bind fun v11 => (klen v11).bind fun v12 => (kbin .sub v12 (.int .i64 1)).bind fun v13 => (kN NN fn.spec_l1In [v1, (.int .i64 0), v13] h).bind fun v14 => (kun .not v14).bind fun v15 => g21_1 k G v0 v1 v4 v15 h
theorem g21_0_eq0 {R : Type} (k : Nat) (G : GX → GV → GV → GV → GV → Heap → Option R) (σ : GS) (h : Heap) : kgroup1 PP cfg NN HH 121 o21 (none, [0, 1, 2, 3, 4, 5, 6, 7, 8, 9]) σ h (fun σ h => g21_1 k G (σ 0) (σ 1) (σ 4) (σ 16) h) = g21_0 k G (σ 0) (σ 1) (σ 4) h := by kernel_rfl
theorem g21_0_eq {R : Type} (k : Nat) (G : GX → GV → GV → GV → GV → Heap → Option R) (σ : GS) (h : Heap) : kgroups PP cfg NN HH 121 o21 [(none, [0, 1, 2, 3, 4, 5, 6, 7, 8, 9]), (some (9, false), [10, 11, 12, 13, 14, 15, 16, 17, 18]), (none, [19])] σ h (fun σ h => G .nrm (σ 0) (σ 1) (σ 4) (σ 26) h) = g21_0 k G (σ 0) (σ 1) (σ 4) h := (kgroups_cons (fun σ h => g21_1_eq k G σ h)).trans (g21_0_eq0 k G σ h)
@[simp] def n21 {R : Type} (k : Nat) (G : GX → GV → GV → GV → GV → Heap → Option R) (v0 : GV) (v1 : GV) (v4 : GV) (h : Heap) : Option R := g21_0 k G v0 v1 v4 h
theorem n21_eq {R : Type} (k : Nat) (G : GX → GV → GV → GV → GV → Heap → Option R) (σ : GS) (h : Heap) : KC k 121 c21 σ h (fun x σ h => G x (σ 0) (σ 1) (σ 4) (σ 26) h) = n21 k G (σ 0) (σ 1) (σ 4) h := (kregion_eq (id := 1) (draw := false) (ops := o21) (gs := [(none, [0, 1, 2, 3, 4, 5, 6, 7, 8, 9]), (some (9, false), [10, 11, 12, 13, 14, 15, 16, 17, 18]), (none, [19])]) (by kernel_rfl) (by kernel_rfl) (by kernel_rfl)).trans (g21_0_eq k G σ h)
@[simp] def n19 {R : Type} (k : Nat) (G : GX → GV → GV → GV → Heap → Option R) (v0 : GV) (v1 : GV) (v4 : GV) (h : Heap) : Option R := n21 k (fun x v0 v1 v4 v26 h => kx x (n20 k G v0 v1 v4 v26 h) (G x v0 v1 v4 h)) v0 v1 v4 h
theorem n19_eq {R : Type} (k : Nat) (G : GX → GV → GV → GV → Heap → Option R) (σ : GS) (h : Heap) : KC k 121 c19 σ h (fun x σ h => G x (σ 0) (σ 1) (σ 4) h) = n19 k G (σ 0) (σ 1) (σ 4) h := (kseq (b := c20) rfl (fun σ h => n20_eq k G σ h)).trans (n21_eq k (fun x v0 v1 v4 v26 h => kx x (n20 k G v0 v1 v4 v26 h) (G x v0 v1 v4 h)) σ h)
@[simp] def n1 {R : Type} (k : Nat) (G : GX → GV → Heap → Option R) (v0 : GV) (v1 : GV) (v4 : GV) (h : Heap) : Option R := n19 k (fun x v0 v1 v4 h => kx x (n2 k G v0 v1 v4 h) (G x v4 h)) v0 v1 v4 h
theorem n1_eq {R : Type} (k : Nat) (G : GX → GV → Heap → Option R) (σ : GS) (h : Heap) : KC k 121 c1 σ h (fun x σ h => G x (σ 4) h) = n1 k G (σ 0) (σ 1) (σ 4) h := (kseq (b := c2) rfl (fun σ h => n2_eq k G σ h)).trans (n19_eq k (fun x v0 v1 v4 h => kx x (n2 k G v0 v1 v4 h) (G x v4 h)) σ h)
noncomputable def c22 : Code := cL c0
@[simp] def n0 {R : Type} (k : Nat) (G : GX → GV → Heap → Option R) (v0 : GV) (v1 : GV) (h : Heap) : Option R := n1 k G v0 v1 (.bool false) h
theorem n0_eq0 {R : Type} (k : Nat) (G : GX → GV → Heap → Option R) (σ : GS) (h : Heap) : KC k 121 c22 σ h (fun x σ h => kx x (n1 k G (σ 0) (σ 1) (σ 4) h) (G x (σ 4) h)) = n0 k G (σ 0) (σ 1) h := by kernel_rfl
theorem n0_eq {R : Type} (k : Nat) (G : GX → GV → Heap → Option R) (σ : GS) (h : Heap) : KC k 121 c0 σ h (fun x σ h => G x (σ 4) h) = n0 k G (σ 0) (σ 1) h := (kseq (b := c1) rfl (fun σ h => n1_eq k G σ h)).trans (n0_eq0 k G σ h)
def run {R : Type} (k : Nat) (a0 : GV) (a1 : GV) (h : Heap) (fin : GV → Heap → Option R) : Option R := n0 k (fun x v4 h => kend x (fin v4 h)) a0 a1 h
theorem run_eq {R : Type} (k : Nat) (a0 : GV) (a1 : GV) (h : Heap) (fin : GV → Heap → Option R) : kfun PP cfg NN HH k fn.spec_l17Carry [a0, a1] h fin = run k a0 a1 h fin := (kfun_eq (nt := 121) (c := c0) (show PP.funcs[fn.spec_l17Carry]? = some Try.f82 by kernel_rfl) (by kernel_rfl) (by kernel_rfl) (fun x σ h => by cases x <;> kernel_rfl)).trans (n0_eq k (fun x v4 h => kend x (fin v4 h)) _ h)
theorem gives {k : Nat} {a0 : GV} {a1 : GV} {h : Heap} {r : GV × Heap} (e : run k a0 a1 h finH = some r) : HH fn.spec_l17Carry [a0, a1] h = some r := kω_of ((run_eq k a0 a1 h finH).trans e)
end S.spec_l17Carry
/-! impl_Carry_1 -/
namespace S.impl_Carry_1
noncomputable def c0 : Code := bodyOf Try.f83
noncomputable def c1 : Code := cR c0
noncomputable def c2 : Code := cR c1
noncomputable def c3 : Code := cR c2
noncomputable def c4 : Code := cR c3
noncomputable def c5 : Code := cR c4
noncomputable def c6 : Code := cR c5
@[simp] def n6 {R : Type} (k : Nat) (G : GX → GV → Heap → Option R) (v0 : GV) (v1 : GV) (v3 : GV) (v5 : GV) (h : Heap) : Option R := (knil v5).bind fun v91 => (kfa 1 v91).bind fun v92 => (kload1 h v92).bind fun v93 => (kbin .add v93 (.int .i64 1)).bind fun v94 => (knil v5).bind fun v95 => (kfa 1 v95).bind fun v96 => (kstore 1 h v96 v94).bind fun h => (kload1 h v1).bind fun v98 => (kbin .add v98 (.int .i64 1)).bind fun v99 => (HH fn.impl_Chain_tell [v0, v99] h).bind fun r => kr r fun v100 h => G .ret (.bool true) h
theorem n6_eq {R : Type} (k : Nat) (G : GX → GV → Heap → Option R) (σ : GS) (h : Heap) : KC k 101 c6 σ h (fun x σ h => G x (σ 3) h) = n6 k G (σ 0) (σ 1) (σ 3) (σ 5) h := by kernel_rfl
noncomputable def c7 : Code := cL c5
noncomputable def c8 : Code := cR c7
noncomputable def c9 : Code := cL c8
noncomputable def c10 : Code := cR c9
@[simp] def n10 {R : Type} (k : Nat) (G : GX → GV → GV → GV → GV → Heap → Option R) (v0 : GV) (v1 : GV) (v5 : GV) (h : Heap) : Option R := G .ret v0 v1 (.bool true) v5 h
theorem n10_eq {R : Type} (k : Nat) (G : GX → GV → GV → GV → GV → Heap → Option R) (σ : GS) (h : Heap) : KC k 101 c10 σ h (fun x σ h => G x (σ 0) (σ 1) (σ 3) (σ 5) h) = n10 k G (σ 0) (σ 1) (σ 5) h := by kernel_rfl
noncomputable def c11 : Code := cL c9
noncomputable def o11 : Array Oper := cO c11
@[simp] def g11_0 {R : Type} (k : Nat) (G : GX → GV → GV → GV → GV → Heap → Option R) (v0 : GV) (v1 : GV) (v3 : GV) (v4 : GV) (v5 : GV) (rs : List Rec) (h : Heap) : Option R := (knil v0).bind fun v73 => (kfa 1 v73).bind fun v74 => kold h fun h0 => (kload1 h v74).bind fun v75 => krs (rs ++ [⟨3, h0.length, h.length, ⟨kblk v74, []⟩⟩]) fun rs => kold h fun h0 => (kload1 h v1).bind fun v76 => krs (rs ++ [⟨4, h0.length, h.length, ⟨kblk v1, []⟩⟩]) fun rs => (kbin .add v76 (.int .i64 1)).bind fun v77 => (knil v0).bind fun v79 => (kfa 1 v79).bind fun v80 => (kload1 h v80).bind fun v81 => (kload1 h v1).bind fun v82 => (kbin .add v82 (.int .i64 1)).bind fun v83 => (kia 1 v81 v83).bind fun v84 => (kload1 h v84).bind fun v85 => (gfill (fun i => some (i * 1, 1)) (zeros [(.str { data := #[] })] 1) [(0, v4)]).bind fun c => kbs 1 1 c h fun v87 h => kold h fun h0 => (kapp [(.str { data := #[] })] 1 16 v85 v87 h).bind fun r => kr r fun v88 h => krs (rs ++ [⟨16, h0.length, h.length, ⟨kblk v85 ++ kblk v87, kblk v85⟩⟩]) fun rs => (kia 1 v75 v77).bind fun v89 => (kstore 1 h v89 v88).bind fun h => bif chk [(3, 16), (4, 16)] rs then G .nrm v0 v1 v3 v5 h else none
theorem g11_0_eq {R : Type} (k : Nat) (G : GX → GV → GV → GV → GV → Heap → Option R) (rs : List Rec) (σ : GS) (h : Heap) : kgroupsD PP cfg NN HH 101 o11 [(3, 16), (4, 16)] [(none, [0, 1, 2, 3, 4, 5, 6, 7, 8, 9, 10, 11, 12, 13, 14, 15, 16, 17, 18])] rs σ h (fun rs σ h => bif chk [(3, 16), (4, 16)] rs then G .nrm (σ 0) (σ 1) (σ 3) (σ 5) h else none) = g11_0 k G (σ 0) (σ 1) (σ 3) (σ 4) (σ 5) rs h := by kernel_rfl
@[simp] def n11 {R : Type} (k : Nat) (G : GX → GV → GV → GV → GV → Heap → Option R) (v0 : GV) (v1 : GV) (v3 : GV) (v4 : GV) (v5 : GV) (h : Heap) : Option R := g11_0 k G v0 v1 v3 v4 v5 [] h
theorem n11_eq {R : Type} (k : Nat) (G : GX → GV → GV → GV → GV → Heap → Option R) (σ : GS) (h : Heap) : KC k 101 c11 σ h (fun x σ h => G x (σ 0) (σ 1) (σ 3) (σ 5) h) = n11 k G (σ 0) (σ 1) (σ 3) (σ 4) (σ 5) h := (kregionD_eq (id := 7) (draw := true) (ops := o11) (gs := [(none, [0, 1, 2, 3, 4, 5, 6, 7, 8, 9, 10, 11, 12, 13, 14, 15, 16, 17, 18])]) (bad := [(3, 16), (4, 16)]) (by kernel_rfl) (by kernel_rfl) (by kernel_rfl) (by kernel_rfl) (by kernel_rfl)).trans (g11_0_eq k G [] σ h)
@[simp] def n9 {R : Type} (k : Nat) (G : GX → GV → GV → GV → GV → Heap → Option R) (v0 : GV) (v1 : GV) (v3 : GV) (v4 : GV) (v5 : GV) (h : Heap) : Option R := n11 k (fun x v0 v1 v3 v5 h => kx x (n10 k G v0 v1 v5 h) (G x v0 v1 v3 v5 h)) v0 v1 v3 v4 v5 h
theorem n9_eq {R : Type} (k : Nat) (G : GX → GV → GV → GV → GV → Heap → Option R) (σ : GS) (h : Heap) : KC k 101 c9 σ h (fun x σ h => G x (σ 0) (σ 1) (σ 3) (σ 5) h) = n9 k G (σ 0) (σ 1) (σ 3) (σ 4) (σ 5) h := (kseq (b := c10) rfl (fun σ h => n10_eq k G σ h)).trans (n11_eq k (fun x v0 v1 v3 v5 h => kx x (n10 k G v0 v1 v5 h) (G x v0 v1 v3 v5 h)) σ h)
noncomputable def c12 : Code := cR c8
@[simp] def n12 {R : Type} (k : Nat) (G : GX → GV → GV → GV → GV → Heap → Option R) (v0 : GV) (v1 : GV) (v3 : GV) (v5 : GV) (h : Heap) : Option R := G .nrm v0 v1 v3 v5 h
theorem n12_eq {R : Type} (k : Nat) (G : GX → GV → GV → GV → GV → Heap → Option R) (σ : GS) (h : Heap) : KC k 101 c12 σ h (fun x σ h => G x (σ 0) (σ 1) (σ 3) (σ 5) h) = n12 k G (σ 0) (σ 1) (σ 3) (σ 5) h := by kernel_rfl
@[simp] def n8 {R : Type} (k : Nat) (G : GX → GV → GV → GV → GV → Heap → Option R) (v0 : GV) (v1 : GV) (v3 : GV) (v4 : GV) (v5 : GV) (v71 : GV) (h : Heap) : Option R := kcond v71 (n9 k G v0 v1 v3 v4 v5 h) (n12 k G v0 v1 v3 v5 h)
theorem n8_eq {R : Type} (k : Nat) (G : GX → GV → GV → GV → GV → Heap → Option R) (σ : GS) (h : Heap) : KC k 101 c8 σ h (fun x σ h => G x (σ 0) (σ 1) (σ 3) (σ 5) h) = n8 k G (σ 0) (σ 1) (σ 3) (σ 4) (σ 5) (σ 71) h := (kcond_eq (a := c9) (b := c12) rfl (by rfl)).trans (congr (congrArg (kcond (σ 71)) (n9_eq k G σ h)) (n12_eq k G σ h))
noncomputable def c13 : Code := cL c7
@[simp] def n7 {R : Type} (k : Nat) (G : GX → GV → GV → GV → GV → Heap → Option R) (v0 : GV) (v1 : GV) (v3 : GV) (v4 : GV) (v5 : GV) (h : Heap) : Option R := (kload1 h v1).bind fun v65 => (kbin .add v65 (.int .i64 1)).bind fun v66 => (knil v0).bind fun v68 => (kloadA 3 h v68).bind fun v69 => (kN NN fn.impl_Chain_last [v69] h).bind fun v70 => (kbin .lss v66 v70).bind fun v71 => n8 k G v0 v1 v3 v4 v5 v71 h
theorem n7_eq0 {R : Type} (k : Nat) (G : GX → GV → GV → GV → GV → Heap → Option R) (σ : GS) (h : Heap) : KC k 101 c13 σ h (fun x σ h => kx x (n8 k G (σ 0) (σ 1) (σ 3) (σ 4) (σ 5) (σ 71) h) (G x (σ 0) (σ 1) (σ 3) (σ 5) h)) = n7 k G (σ 0) (σ 1) (σ 3) (σ 4) (σ 5) h := by kernel_rfl
theorem n7_eq {R : Type} (k : Nat) (G : GX → GV → GV → GV → GV → Heap → Option R) (σ : GS) (h : Heap) : KC k 101 c7 σ h (fun x σ h => G x (σ 0) (σ 1) (σ 3) (σ 5) h) = n7 k G (σ 0) (σ 1) (σ 3) (σ 4) (σ 5) h := (kseq (b := c8) rfl (fun σ h => n8_eq k G σ h)).trans (n7_eq0 k G σ h)
@[simp] def n5 {R : Type} (k : Nat) (G : GX → GV → Heap → Option R) (v0 : GV) (v1 : GV) (v3 : GV) (v4 : GV) (v5 : GV) (h : Heap) : Option R := n7 k (fun x v0 v1 v3 v5 h => kx x (n6 k G v0 v1 v3 v5 h) (G x v3 h)) v0 v1 v3 v4 v5 h
theorem n5_eq {R : Type} (k : Nat) (G : GX → GV → Heap → Option R) (σ : GS) (h : Heap) : KC k 101 c5 σ h (fun x σ h => G x (σ 3) h) = n5 k G (σ 0) (σ 1) (σ 3) (σ 4) (σ 5) h := (kseq (b := c6) rfl (fun σ h => n6_eq k G σ h)).trans (n7_eq k (fun x v0 v1 v3 v5 h => kx x (n6 k G v0 v1 v3 v5 h) (G x v3 h)) σ h)
noncomputable def c14 : Code := cL c4
@[simp] def n4 {R : Type} (k : Nat) (G : GX → GV → Heap → Option R) (v0 : GV) (v1 : GV) (v3 : GV) (v4 : GV) (v5 : GV) (h : Heap) : Option R := (knil v5).bind fun v57 => (kfa 0 v57).bind fun v58 => (kload1 h v58).bind fun v59 => (gfill (fun i => some (i * 1, 1)) (zeros [(.str { data := #[] })] 1) [(0, v4)]).bind fun c => kbs 1 1 c h fun v61 h => (kapp [(.str { data := #[] })] 1 16 v59 v61 h).bind fun r => kr r fun v62 h => (knil v5).bind fun v63 => (kfa 0 v63).bind fun v64 => (kstore 1 h v64 v62).bind fun h => n5 k G v0 v1 v3 v4 v5 h
theorem n4_eq0 {R : Type} (k : Nat) (G : GX → GV → Heap → Option R) (σ : GS) (h : Heap) : KC k 101 c14 σ h (fun x σ h => kx x (n5 k G (σ 0) (σ 1) (σ 3) (σ 4) (σ 5) h) (G x (σ 3) h)) = n4 k G (σ 0) (σ 1) (σ 3) (σ 4) (σ 5) h := by kernel_rfl
theorem n4_eq {R : Type} (k : Nat) (G : GX → GV → Heap → Option R) (σ : GS) (h : Heap) : KC k 101 c4 σ h (fun x σ h => G x (σ 3) h) = n4 k G (σ 0) (σ 1) (σ 3) (σ 4) (σ 5) h := (kseq (b := c5) rfl (fun σ h => n5_eq k G σ h)).trans (n4_eq0 k G σ h)
noncomputable def c15 : Code := cL c3
@[simp] def n3 {R : Type} (k : Nat) (G : GX → GV → Heap → Option R) (v0 : GV) (v1 : GV) (v3 : GV) (v4 : GV) (v5 : GV) (h : Heap) : Option R := (knil v0).bind fun v42 => (kfa 1 v42).bind fun v43 => (kload1 h v43).bind fun v44 => (kload1 h v1).bind fun v45 => (knil v0).bind fun v47 => (kfa 1 v47).bind fun v48 => (kload1 h v48).bind fun v49 => (kload1 h v1).bind fun v50 => (kia 1 v49 v50).bind fun v51 => (kload1 h v51).bind fun v52 => (ksl 1 v52 (some (.int .i64 1)) none none).bind fun v53 => (kia 1 v44 v45).bind fun v54 => (kstore 1 h v54 v53).bind fun h => n4 k G v0 v1 v3 v4 v5 h
theorem n3_eq0 {R : Type} (k : Nat) (G : GX → GV → Heap → Option R) (σ : GS) (h : Heap) : KC k 101 c15 σ h (fun x σ h => kx x (n4 k G (σ 0) (σ 1) (σ 3) (σ 4) (σ 5) h) (G x (σ 3) h)) = n3 k G (σ 0) (σ 1) (σ 3) (σ 4) (σ 5) h := by kernel_rfl
theorem n3_eq {R : Type} (k : Nat) (G : GX → GV → Heap → Option R) (σ : GS) (h : Heap) : KC k 101 c3 σ h (fun x σ h => G x (σ 3) h) = n3 k G (σ 0) (σ 1) (σ 3) (σ 4) (σ 5) h := (kseq (b := c4) rfl (fun σ h => n4_eq k G σ h)).trans (n3_eq0 k G σ h)
noncomputable def c16 : Code := cL c2
@[simp] def n2 {R : Type} (k : Nat) (G : GX → GV → Heap → Option R) (v0 : GV) (v1 : GV) (v3 : GV) (h : Heap) : Option R := (knil v0).bind fun v26 => (kfa 1 v26).bind fun v27 => (kload1 h v27).bind fun v28 => (kload1 h v1).bind fun v29 => (kia 1 v28 v29).bind fun v30 => (kload1 h v30).bind fun v31 => (kia 1 v31 (.int .i64 0)).bind fun v32 => (kload1 h v32).bind fun v33 => (knil v0).bind fun v35 => (kfa 0 v35).bind fun v36 => (kload1 h v36).bind fun v37 => (kload1 h v1).bind fun v38 => (kbin .add v38 (.int .i64 1)).bind fun v39 => (kia 2 v37 v39).bind fun v40 => n3 k G v0 v1 v3 v33 v40 h
theorem n2_eq0 {R : Type} (k : Nat) (G : GX → GV → Heap → Option R) (σ : GS) (h : Heap) : KC k 101 c16 σ h (fun x σ h => kx x (n3 k G (σ 0) (σ 1) (σ 3) (σ 4) (σ 5) h) (G x (σ 3) h)) = n2 k G (σ 0) (σ 1) (σ 3) h := by kernel_rfl
theorem n2_eq {R : Type} (k : Nat) (G : GX → GV → Heap → Option R) (σ : GS) (h : Heap) : KC k 101 c2 σ h (fun x σ h => G x (σ 3) h) = n2 k G (σ 0) (σ 1) (σ 3) h := (kseq (b := c3) rfl (fun σ h => n3_eq k G σ h)).trans (n2_eq0 k G σ h)
noncomputable def c17 : Code := cL c1
noncomputable def c18 : Code := cR c17
@[simp] def n18 {R : Type} (k : Nat) (G : GX → GV → GV → GV → Heap → Option R) (v0 : GV) (v1 : GV) (v3 : GV) (v24 : GV) (h : Heap) : Option R := kcond v24 (G .ret v0 v1 (.bool false) h) (G .nrm v0 v1 v3 h)
theorem n18_eq {R : Type} (k : Nat) (G : GX → GV → GV → GV → Heap → Option R) (σ : GS) (h : Heap) : KC k 101 c18 σ h (fun x σ h => G x (σ 0) (σ 1) (σ 3) h) = n18 k G (σ 0) (σ 1) (σ 3) (σ 24) h := by kernel_rfl
noncomputable def c19 : Code := cL c17
noncomputable def o19 : Array Oper := cO c19
@[simp] def g19_2 {R : Type} (k : Nat) (G : GX → GV → GV → GV → GV → Heap → Option R) (v0 : GV) (v1 : GV) (v3 : GV) (v14 : GV) (v23 : GV) (h : Heap) : Option R := (kpick v14 (.bool true) v23).bind fun v24 => G .nrm v0 v1 v3 v24 h
theorem g19_2_eq {R : Type} (k : Nat) (G : GX → GV → GV → GV → GV → Heap → Option R) (σ : GS) (h : Heap) : kgroups PP cfg NN HH 101 o19 [(none, [18])] σ h (fun σ h => G .nrm (σ 0) (σ 1) (σ 3) (σ 24) h) = g19_2 k G (σ 0) (σ 1) (σ 3) (σ 14) (σ 23) h := by kernel_rfl
@[simp] def g19_1 {R : Type} (k : Nat) (G : GX → GV → GV → GV → GV → Heap → Option R) (v0 : GV) (v1 : GV) (v3 : GV) (v14 : GV) (h : Heap) : Option R := bif tr false v14 then (knil v0).bind fun v16 => (kfa 1 v16).bind fun v17 => (kload1 h v17).bind fun v18 => (kload1 h v1).bind fun v19 => (kia 1 v18 v19).bind fun v20 => (kload1 h v20).bind fun v21 => (klen v21).bind fun v22 => (kbin .eql v22 (.int .i64 0)).bind fun v23 => g19_2 k G v0 v1 v3 v14 v23 h else g19_2 k G v0 v1 v3 v14 .un h
theorem g19_1_eq0 {R : Type} (k : Nat) (G : GX → GV → GV → GV → GV → Heap → Option R) (σ : GS) (h : Heap) : kgroup1 PP cfg NN HH 101 o19 (some (8, false), [9, 10, 11, 12, 13, 14, 15, 16, 17]) σ h (fun σ h => g19_2 k G (σ 0) (σ 1) (σ 3) (σ 14) (σ 23) h) = g19_1 k G (σ 0) (σ 1) (σ 3) (σ 14) h := by kernel_rfl
theorem g19_1_eq {R : Type} (k : Nat) (G : GX → GV → GV → GV → GV → Heap → Option R) (σ : GS) (h : Heap) : kgroups PP cfg NN HH 101 o19 [(some (8, false), [9, 10, 11, 12, 13, 14, 15, 16, 17]), (none, [18])] σ h (fun σ h => G .nrm (σ 0) (σ 1) (σ 3) (σ 24) h) = g19_1 k G (σ 0) (σ 1) (σ 3) (σ 14) h := (kgroups_cons (fun σ h => g19_2_eq k G σ h)).trans (g19_1_eq0 k G σ h)
@[simp] def g19_0 {R : Type} (k : Nat) (G : GX → GV → GV → GV → GV → Heap → Option R) (v0 : GV) (v1 : GV) (v3 : GV) (h : Heap) : Option R := (kload1 h v1).bind fun v6 => (knil v0).bind fun v8 => (kloadA 3 h v8).bind fun v9 => (kN NN fn.impl_Chain_last [v9] h).bind fun v10 => (kbin .sub v10 (.int .i64 1)).bind fun v11 => (kN NN fn.impl_in [v6, (.int .i64 0), v11] h).bind fun v12 => (kun .not v12).bind fun v13 => g19_1 k G v0 v1 v3 v13 h
theorem g19_0_eq0 {R : Type} (k : Nat) (G : GX → GV → GV → GV → GV → Heap → Option R) (σ : GS) (h : Heap) : kgroup1 PP cfg NN HH 101 o19 (none, [0, 1, 2, 3, 4, 5, 6, 7, 8]) σ h (fun σ h => g19_1 k G (σ 0) (σ 1) (σ 3) (σ 14) h) = g19_0 k G (σ 0) (σ 1) (σ 3) h := by kernel_rfl
theorem g19_0_eq {R : Type} (k : Nat) (G : GX → GV → GV → GV → GV → Heap → Option R) (σ : GS) (h : Heap) : kgroups PP cfg NN HH 101 o19 [(none, [0, 1, 2, 3, 4, 5, 6, 7, 8]), (some (8, false), [9, 10, 11, 12, 13, 14, 15, 16, 17]), (none, [18])] σ h (fun σ h => G .nrm (σ 0) (σ 1) (σ 3) (σ 24) h) = g19_0 k G (σ 0) (σ 1) (σ 3) h := (kgroups_cons (fun σ h => g19_1_eq k G σ h)).trans (g19_0_eq0 k G σ h)
@[simp] def n19 {R : Type} (k : Nat) (G : GX → GV → GV → GV → GV → Heap → Option R) (v0 : GV) (v1 : GV) (v3 : GV) (h : Heap) : Option R := g19_0 k G v0 v1 v3 h
theorem n19_eq {R : Type} (k : Nat) (G : GX → GV → GV → GV → GV → Heap → Option R) (σ : GS) (h : Heap) : KC k 101 c19 σ h (fun x σ h => G x (σ 0) (σ 1) (σ 3) (σ 24) h) = n19 k G (σ 0) (σ 1) (σ 3) h := (kregion_eq (id := 1) (draw := true) (ops := o19) (gs := [(none, [0, 1, 2, 3, 4, 5, 6, 7, 8]), (some (8, false), [9, 10, 11, 12, 13, 14, 15, 16, 17]), (none, [18])]) (by kernel_rfl) (by kernel_rfl) (by kernel_rfl)).trans (g19_0_eq k G σ h)
@[simp] def n17 {R : Type} (k : Nat) (G : GX → GV → GV → GV → Heap → Option R) (v0 : GV) (v1 : GV) (v3 : GV) (h : Heap) : Option R := n19 k (fun x v0 v1 v3 v24 h => kx x (n18 k G v0 v1 v3 v24 h) (G x v0 v1 v3 h)) v0 v1 v3 h
theorem n17_eq {R : Type} (k : Nat) (G : GX → GV → GV → GV → Heap → Option R) (σ : GS) (h : Heap) : KC k 101 c17 σ h (fun x σ h => G x (σ 0) (σ 1) (σ 3) h) = n17 k G (σ 0) (σ 1) (σ 3) h := (kseq (b := c18) rfl (fun σ h => n18_eq k G σ h)).trans (n19_eq k (fun x v0 v1 v3 v24 h => kx x (n18 k G v0 v1 v3 v24 h) (G x v0 v1 v3 h)) σ h)
@[simp] def n1 {R : Type} (k : Nat) (G : GX → GV → Heap → Option R) (v0 : GV) (v1 : GV) (v3 : GV) (h : Heap) : Option R := n17 k (fun x v0 v1 v3 h => kx x (n2 k G v0 v1 v3 h) (G x v3 h)) v0 v1 v3 h
theorem n1_eq {R : Type} (k : Nat) (G : GX → GV → Heap → Option R) (σ : GS) (h : Heap) : KC k 101 c1 σ h (fun x σ h => G x (σ 3) h) = n1 k G (σ 0) (σ 1) (σ 3) h := (kseq (b := c2) rfl (fun σ h => n2_eq k G σ h)).trans (n17_eq k (fun x v0 v1 v3 h => kx x (n2 k G v0 v1 v3 h) (G x v3 h)) σ h)
noncomputable def c20 : Code := cL c0
@[simp] def n0 {R : Type} (k : Nat) (G : GX → GV → Heap → Option R) (v0 : GV) (v1 : GV) (h : Heap) : Option R := n1 k G v0 v1 (.bool false) h
theorem n0_eq0 {R : Type} (k : Nat) (G : GX → GV → Heap → Option R) (σ : GS) (h : Heap) : KC k 101 c20 σ h (fun x σ h => kx x (n1 k G (σ 0) (σ 1) (σ 3) h) (G x (σ 3) h)) = n0 k G (σ 0) (σ 1) h := by kernel_rfl
theorem n0_eq {R : Type} (k : Nat) (G : GX → GV → Heap → Option R) (σ : GS) (h : Heap) : KC k 101 c0 σ h (fun x σ h => G x (σ 3) h) = n0 k G (σ 0) (σ 1) h := (kseq (b := c1) rfl (fun σ h => n1_eq k G σ h)).trans (n0_eq0 k G σ h)
def run {R : Type} (k : Nat) (a0 : GV) (a1 : GV) (h : Heap) (fin : GV → Heap → Option R) : Option R := n0 k (fun x v3 h => kend x (fin v3 h)) a0 a1 h
theorem run_eq {R : Type} (k : Nat) (a0 : GV) (a1 : GV) (h : Heap) (fin : GV → Heap → Option R) : kfun PP cfg NN HH k fn.impl_Carry_1 [a0, a1] h fin = run k a0 a1 h fin := (kfun_eq (nt := 101) (c := c0) (show PP.funcs[fn.impl_Carry_1]? = some Try.f83 by kernel_rfl) (by kernel_rfl) (by kernel_rfl) (fun x σ h => by cases x <;> kernel_rfl)).trans (n0_eq k (fun x v3 h => kend x (fin v3 h)) _ h)
theorem gives {k : Nat} {a0 : GV} {a1 : GV} {h : Heap} {r : GV × Heap} (e : run k a0 a1 h finH = some r) : HH fn.impl_Carry_1 [a0, a1] h = some r := kω_of ((run_eq k a0 a1 h finH).trans e)
end S.impl_Carry_1
/-! spec_l1In -/
namespace S.spec_l1In
noncomputable def c0 : Code := bodyOf Try.f88
noncomputable def c1 : Code := cR c0
noncomputable def c2 : Code := cR c1
@[simp] def n2 {R : Type} (k : Nat) (G : GX → GV → Heap → Option R) (v6 : GV) (h : Heap) : Option R := G .ret v6 h
theorem n2_eq {R : Type} (k : Nat) (G : GX → GV → Heap → Option R) (σ : GS) (h : Heap) : KC k 15 c2 σ h (fun x σ h => G x (σ 6) h) = n2 k G (σ 6) h := by kernel_rfl
noncomputable def c3 : Code := cL c1
noncomputable def o3 : Array Oper := cO c3
@[simp] def g3_2 {R : Type} (k : Nat) (G : GX → GV → Heap → Option R) (v10 : GV) (v13 : GV) (h : Heap) : Option R := (kpick v10 v13 (.bool false)).bind fun v14 => G .nrm v14 h
theorem g3_2_eq {R : Type} (k : Nat) (G : GX → GV → Heap → Option R) (σ : GS) (h : Heap) : kgroups PP cfg NN HH 15 o3 [(none, [7, 8])] σ h (fun σ h => G .nrm (σ 6) h) = g3_2 k G (σ 10) (σ 13) h := by kernel_rfl
@[simp] def g3_1 {R : Type} (k : Nat) (G : GX → GV → Heap → Option R) (v0 : GV) (v2 : GV) (v10 : GV) (h : Heap) : Option R := bif tr true v10 then (kbin .leq v0 v2).bind fun v13 => g3_2 k G v10 v13 h else g3_2 k G v10 .un h
theorem g3_1_eq0 {R : Type} (k : Nat) (G : GX → GV → Heap → Option R) (σ : GS) (h : Heap) : kgroup1 PP cfg NN HH 15 o3 (some (3, true), [4, 5, 6]) σ h (fun σ h => g3_2 k G (σ 10) (σ 13) h) = g3_1 k G (σ 0) (σ 2) (σ 10) h := by kernel_rfl
theorem g3_1_eq {R : Type} (k : Nat) (G : GX → GV → Heap → Option R) (σ : GS) (h : Heap) : kgroups PP cfg NN HH 15 o3 [(some (3, true), [4, 5, 6]), (none, [7, 8])] σ h (fun σ h => G .nrm (σ 6) h) = g3_1 k G (σ 0) (σ 2) (σ 10) h := (kgroups_cons (fun σ h => g3_2_eq k G σ h)).trans (g3_1_eq0 k G σ h)
@[simp] def g3_0 {R : Type} (k : Nat) (G : GX → GV → Heap → Option R) (v0 : GV) (v1 : GV) (v2 : GV) (h : Heap) : Option R := (kbin .geq v0 v1).bind fun v9 => g3_1 k G v0 v2 v9 h
theorem g3_0_eq0 {R : Type} (k : Nat) (G : GX → GV → Heap → Option R) (σ : GS) (h : Heap) : kgroup1 PP cfg NN HH 15 o3 (none, [0, 1, 2, 3]) σ h (fun σ h => g3_1 k G (σ 0) (σ 2) (σ 10) h) = g3_0 k G (σ 0) (σ 1) (σ 2) h := by kernel_rfl
theorem g3_0_eq {R : Type} (k : Nat) (G : GX → GV → Heap → Option R) (σ : GS) (h : Heap) : kgroups PP cfg NN HH 15 o3 [(none, [0, 1, 2, 3]), (some (3, true), [4, 5, 6]), (none, [7, 8])] σ h (fun σ h => G .nrm (σ 6) h) = g3_0 k G (σ 0) (σ 1) (σ 2) h := (kgroups_cons (fun σ h => g3_1_eq k G σ h)).trans (g3_0_eq0 k G σ h)
@[simp] def n3 {R : Type} (k : Nat) (G : GX → GV → Heap → Option R) (v0 : GV) (v1 : GV) (v2 : GV) (h : Heap) : Option R := g3_0 k G v0 v1 v2 h
theorem n3_eq {R : Type} (k : Nat) (G : GX → GV → Heap → Option R) (σ : GS) (h : Heap) : KC k 15 c3 σ h (fun x σ h => G x (σ 6) h) = n3 k G (σ 0) (σ 1) (σ 2) h := (kregion_eq (id := 1) (draw := false) (ops := o3) (gs := [(none, [0, 1, 2, 3]), (some (3, true), [4, 5, 6]), (none, [7, 8])]) (by kernel_rfl) (by kernel_rfl) (by kernel_rfl)).trans (g3_0_eq k G σ h)
@[simp] def n1 {R : Type} (k : Nat) (G : GX → GV → Heap → Option R) (v0 : GV) (v1 : GV) (v2 : GV) (h : Heap) : Option R := n3 k (fun x v6 h => kx x (n2 k G v6 h) (G x v6 h)) v0 v1 v2 h
theorem n1_eq {R : Type} (k : Nat) (G : GX → GV → Heap → Option R) (σ : GS) (h : Heap) : KC k 15 c1 σ h (fun x σ h => G x (σ 6) h) = n1 k G (σ 0) (σ 1) (σ 2) h := (kseq (b := c2) rfl (fun σ h => n2_eq k G σ h)).trans (n3_eq k (fun x v6 h => kx x (n2 k G v6 h) (G x v6 h)) σ h)
noncomputable def c4 : Code := cL c0
@[simp] def n0 {R : Type} (k : Nat) (G : GX → GV → Heap → Option R) (v0 : GV) (v1 : GV) (v2 : GV) (h : Heap) : Option R := n1 k G v0 v1 v2 h
theorem n0_eq0 {R : Type} (k : Nat) (G : GX → GV → Heap → Option R) (σ : GS) (h : Heap) : KC k 15 c4 σ h (fun x σ h => kx x (n1 k G (σ 0) (σ 1) (σ 2) h) (G x (σ 6) h)) = n0 k G (σ 0) (σ 1) (σ 2) h := by kernel_rfl
theorem n0_eq {R : Type} (k : Nat) (G : GX → GV → Heap → Option R) (σ : GS) (h : Heap) : KC k 15 c0 σ h (fun x σ h => G x (σ 6) h) = n0 k G (σ 0) (σ 1) (σ 2) h := (kseq (b := c1) rfl (fun σ h => n1_eq k G σ h)).trans (n0_eq0 k G σ h)
def run {R : Type} (k : Nat) (a0 : GV) (a1 : GV) (a2 : GV) (h : Heap) (fin : GV → Heap → Option R) : Option R := n0 k (fun x v6 h => kend x (fin v6 h)) a0 a1 a2 h
theorem run_eq {R : Type} (k : Nat) (a0 : GV) (a1 : GV) (a2 : GV) (h : Heap) (fin : GV → Heap → Option R) : kfun PP cfg NN HH k fn.spec_l1In [a0, a1, a2] h fin = run k a0 a1 a2 h fin := (kfun_eq (nt := 15) (c := c0) (show PP.funcs[fn.spec_l1In]? = some Try.f88 by kernel_rfl) (by kernel_rfl) (by kernel_rfl) (fun x σ h => by cases x <;> kernel_rfl)).trans (n0_eq k (fun x v6 h => kend x (fin v6 h)) _ h)
theorem gives {k : Nat} {a0 : GV} {a1 : GV} {a2 : GV} {v : GV} (e : run k a0 a1 a2 [] finN = some v) : NN fn.spec_l1In [a0, a1, a2] = some v := nω_of (by kernel_rfl) ((run_eq k a0 a1 a2 [] finN).trans e)
end S.spec_l1In
/-! spec_l17Same -/
namespace S.spec_l17Same
noncomputable def c0 : Code := bodyOf Try.f89
noncomputable def c1 : Code := cR c0
noncomputable def c2 : Code := cR c1
noncomputable def c3 : Code := cR c2
@[simp] def n3 {R : Type} (k : Nat) (G : GX → GV → Heap → Option R) (h : Heap) : Option R := G .ret (.bool true) h
theorem n3_eq {R : Type} (k : Nat) (G : GX → GV → Heap → Option R) (σ : GS) (h : Heap) : KC k 26 c3 σ h (fun x σ h => G x (σ 4) h) = n3 k G h := by kernel_rfl
noncomputable def c4 : Code := cL c2
noncomputable def c5 : Code := cR c4
noncomputable def c6 : Code := cL c5
noncomputable def c7 : Code := cL c6
noncomputable def c8 : Code := cR c7
noncomputable def c9 : Code := cR c8
@[simp] def n9 {R : Type} (k : Nat) (G : GX → GV → GV → GV → GV → Heap → Option R) (v0 : GV) (v1 : GV) (v4 : GV) (v5 : GV) (h : Heap) : Option R := (kbin .add v5 (.int .i64 1)).bind fun v16 => G .nrm v0 v1 v4 v16 h
theorem n9_eq {R : Type} (k : Nat) (G : GX → GV → GV → GV → GV → Heap → Option R) (σ : GS) (h : Heap) : KC k 26 c9 σ h (fun x σ h => G x (σ 0) (σ 1) (σ 4) (σ 5) h) = n9 k G (σ 0) (σ 1) (σ 4) (σ 5) h := by kernel_rfl
noncomputable def c10 : Code := cL c8
noncomputable def c11 : Code := cL c10
@[simp] def n11 {R : Type} (k : Nat) (G : GX → GV → GV → GV → GV → Heap → Option R) (v0 : GV) (v1 : GV) (v4 : GV) (v5 : GV) (h : Heap) : Option R := (kia 1 v0 v5).bind fun v19 => (kload1 h v19).bind fun v20 => (kia 1 v1 v5).bind fun v23 => (kload1 h v23).bind fun v24 => (kbin .neq v20 v24).bind fun v25 => kcond v25 (G .ret v0 v1 (.bool false) v5 h) (G .nrm v0 v1 v4 v5 h)
theorem n11_eq {R : Type} (k : Nat) (G : GX → GV → GV → GV → GV → Heap → Option R) (σ : GS) (h : Heap) : KC k 26 c11 σ h (fun x σ h => G x (σ 0) (σ 1) (σ 4) (σ 5) h) = n11 k G (σ 0) (σ 1) (σ 4) (σ 5) h := by kernel_rfl
@[simp] def n10 {R : Type} (k : Nat) (G : GX → GV → GV → GV → GV → Heap → Option R) (v0 : GV) (v1 : GV) (v4 : GV) (v5 : GV) (h : Heap) : Option R := n11 k (fun x v0 v1 v4 v5 h => kb 1 x fun x => G x v0 v1 v4 v5 h) v0 v1 v4 v5 h
theorem n10_eq {R : Type} (k : Nat) (G : GX → GV → GV → GV → GV → Heap → Option R) (σ : GS) (h : Heap) : KC k 26 c10 σ h (fun x σ h => G x (σ 0) (σ 1) (σ 4) (σ 5) h) = n10 k G (σ 0) (σ 1) (σ 4) (σ 5) h := (kblock_eq (a := c11) rfl).trans (n11_eq k (fun x v0 v1 v4 v5 h => kb 1 x fun x => G x v0 v1 v4 v5 h) σ h)
@[simp] def n8 {R : Type} (k : Nat) (G : GX → GV → GV → GV → GV → Heap → Option R) (v0 : GV) (v1 : GV) (v4 : GV) (v5 : GV) (h : Heap) : Option R := n10 k (fun x v0 v1 v4 v5 h => kx x (n9 k G v0 v1 v4 v5 h) (G x v0 v1 v4 v5 h)) v0 v1 v4 v5 h
theorem n8_eq {R : Type} (k : Nat) (G : GX → GV → GV → GV → GV → Heap → Option R) (σ : GS) (h : Heap) : KC k 26 c8 σ h (fun x σ h => G x (σ 0) (σ 1) (σ 4) (σ 5) h) = n8 k G (σ 0) (σ 1) (σ 4) (σ 5) h := (kseq (b := c9) rfl (fun σ h => n9_eq k G σ h)).trans (n10_eq k (fun x v0 v1 v4 v5 h => kx x (n9 k G v0 v1 v4 v5 h) (G x v0 v1 v4 v5 h)) σ h)
noncomputable def c12 : Code := cL c7
@[simp] def n7 {R : Type} (k : Nat) (G : GX → GV → GV → GV → GV → Heap → Option R) (v0 : GV) (v1 : GV) (v4 : GV) (v5 : GV) (h : Heap) : Option R := (klen v0).bind fun v13 => (kbin .lss v5 v13).bind fun v14 => kcond v14 (n8 k G v0 v1 v4 v5 h) (G (.ext 0) v0 v1 v4 v5 h)
theorem n7_eq0 {R : Type} (k : Nat) (G : GX → GV → GV → GV → GV → Heap → Option R) (σ : GS) (h : Heap) : KC k 26 c12 σ h (fun x σ h => kx x (n8 k G (σ 0) (σ 1) (σ 4) (σ 5) h) (G x (σ 0) (σ 1) (σ 4) (σ 5) h)) = n7 k G (σ 0) (σ 1) (σ 4) (σ 5) h := by kernel_rfl
theorem n7_eq {R : Type} (k : Nat) (G : GX → GV → GV → GV → GV → Heap → Option R) (σ : GS) (h : Heap) : KC k 26 c7 σ h (fun x σ h => G x (σ 0) (σ 1) (σ 4) (σ 5) h) = n7 k G (σ 0) (σ 1) (σ 4) (σ 5) h := (kseq (b := c8) rfl (fun σ h => n8_eq k G σ h)).trans (n7_eq0 k G σ h)
def l6 {R : Type} (k : Nat) (G : GX → GV → Heap → Option R) : Nat → GV → GV → GV → GV → Heap → Option R
  | 0, _, _, _, _, _ => none
  | r + 1, v0, v1, v4, v5, h => n7 k (fun x v0 v1 v4 v5 h => kx x (l6 k G r v0 v1 v4 v5 h) (G x v4 h)) v0 v1 v4 v5 h
theorem l6_eq {R : Type} (k : Nat) (G : GX → GV → Heap → Option R) : ∀ (r : Nat) (σ : GS) (h : Heap), kloop (fun σ h K => KC k 26 c7 σ h K) r σ h (fun x σ h => G x (σ 4) h) = l6 k G r (σ 0) (σ 1) (σ 4) (σ 5) h
  | 0, _, _ => rfl
  | r + 1, σ, h => (kloop_eq (fun σ h => l6_eq k G r σ h)).trans (n7_eq k (fun x v0 v1 v4 v5 h => kx x (l6 k G r v0 v1 v4 v5 h) (G x v4 h)) σ h)
@[simp] def n6 {R : Type} (k : Nat) (G : GX → GV → Heap → Option R) (v0 : GV) (v1 : GV) (v4 : GV) (v5 : GV) (h : Heap) : Option R := l6 k G k v0 v1 v4 v5 h
theorem n6_eq {R : Type} (k : Nat) (G : GX → GV → Heap → Option R) (σ : GS) (h : Heap) : KC k 26 c6 σ h (fun x σ h => G x (σ 4) h) = n6 k G (σ 0) (σ 1) (σ 4) (σ 5) h := (kloopc_eq (a := c7) rfl).trans (l6_eq k G k σ h)
@[simp] def n5 {R : Type} (k : Nat) (G : GX → GV → Heap → Option R) (v0 : GV) (v1 : GV) (v4 : GV) (v5 : GV) (h : Heap) : Option R := n6 k (fun x v4 h => kb 0 x fun x => G x v4 h) v0 v1 v4 v5 h
theorem n5_eq {R : Type} (k : Nat) (G : GX → GV → Heap → Option R) (σ : GS) (h : Heap) : KC k 26 c5 σ h (fun x σ h => G x (σ 4) h) = n5 k G (σ 0) (σ 1) (σ 4) (σ 5) h := (kblock_eq (a := c6) rfl).trans (n6_eq k (fun x v4 h => kb 0 x fun x => G x v4 h) σ h)
noncomputable def c13 : Code := cL c4
@[simp] def n4 {R : Type} (k : Nat) (G : GX → GV → Heap → Option R) (v0 : GV) (v1 : GV) (v4 : GV) (h : Heap) : Option R := n5 k G v0 v1 v4 (.int .i64 0) h
theorem n4_eq0 {R : Type} (k : Nat) (G : GX → GV → Heap → Option R) (σ : GS) (h : Heap) : KC k 26 c13 σ h (fun x σ h => kx x (n5 k G (σ 0) (σ 1) (σ 4) (σ 5) h) (G x (σ 4) h)) = n4 k G (σ 0) (σ 1) (σ 4) h := by kernel_rfl
theorem n4_eq {R : Type} (k : Nat) (G : GX → GV → Heap → Option R) (σ : GS) (h : Heap) : KC k 26 c4 σ h (fun x σ h => G x (σ 4) h) = n4 k G (σ 0) (σ 1) (σ 4) h := (kseq (b := c5) rfl (fun σ h => n5_eq k G σ h)).trans (n4_eq0 k G σ h)
@[simp] def n2 {R : Type} (k : Nat) (G : GX → GV → Heap → Option R) (v0 : GV) (v1 : GV) (v4 : GV) (h : Heap) : Option R := n4 k (fun x v4 h => kx x (n3 k G h) (G x v4 h)) v0 v1 v4 h
theorem n2_eq {R : Type} (k : Nat) (G : GX → GV → Heap → Option R) (σ : GS) (h : Heap) : KC k 26 c2 σ h (fun x σ h => G x (σ 4) h) = n2 k G (σ 0) (σ 1) (σ 4) h := (kseq (b := c3) rfl (fun σ h => n3_eq k G σ h)).trans (n4_eq k (fun x v4 h => kx x (n3 k G h) (G x v4 h)) σ h)
noncomputable def c14 : Code := cL c1
@[simp] def n1 {R : Type} (k : Nat) (G : GX → GV → Heap → Option R) (v0 : GV) (v1 : GV) (v4 : GV) (h : Heap) : Option R := (klen v0).bind fun v7 => (klen v1).bind fun v9 => (kbin .neq v7 v9).bind fun v10 => kcond v10 (G .ret (.bool false) h) (n2 k G v0 v1 v4 h)
theorem n1_eq0 {R : Type} (k : Nat) (G : GX → GV → Heap → Option R) (σ : GS) (h : Heap) : KC k 26 c14 σ h (fun x σ h => kx x (n2 k G (σ 0) (σ 1) (σ 4) h) (G x (σ 4) h)) = n1 k G (σ 0) (σ 1) (σ 4) h := by kernel_rfl
theorem n1_eq {R : Type} (k : Nat) (G : GX → GV → Heap → Option R) (σ : GS) (h : Heap) : KC k 26 c1 σ h (fun x σ h => G x (σ 4) h) = n1 k G (σ 0) (σ 1) (σ 4) h := (kseq (b := c2) rfl (fun σ h => n2_eq k G σ h)).trans (n1_eq0 k G σ h)
noncomputable def c15 : Code := cL c0
@[simp] def n0 {R : Type} (k : Nat) (G : GX → GV → Heap → Option R) (v0 : GV) (v1 : GV) (h : Heap) : Option R := n1 k G v0 v1 (.bool false) h
theorem n0_eq0 {R : Type} (k : Nat) (G : GX → GV → Heap → Option R) (σ : GS) (h : Heap) : KC k 26 c15 σ h (fun x σ h => kx x (n1 k G (σ 0) (σ 1) (σ 4) h) (G x (σ 4) h)) = n0 k G (σ 0) (σ 1) h := by kernel_rfl
theorem n0_eq {R : Type} (k : Nat) (G : GX → GV → Heap → Option R) (σ : GS) (h : Heap) : KC k 26 c0 σ h (fun x σ h => G x (σ 4) h) = n0 k G (σ 0) (σ 1) h := (kseq (b := c1) rfl (fun σ h => n1_eq k G σ h)).trans (n0_eq0 k G σ h)
def run {R : Type} (k : Nat) (a0 : GV) (a1 : GV) (h : Heap) (fin : GV → Heap → Option R) : Option R := n0 k (fun x v4 h => kend x (fin v4 h)) a0 a1 h
theorem run_eq {R : Type} (k : Nat) (a0 : GV) (a1 : GV) (h : Heap) (fin : GV → Heap → Option R) : kfun PP cfg NN HH k fn.spec_l17Same [a0, a1] h fin = run k a0 a1 h fin := (kfun_eq (nt := 26) (c := c0) (show PP.funcs[fn.spec_l17Same]? = some Try.f89 by kernel_rfl) (by kernel_rfl) (by kernel_rfl) (fun x σ h => by cases x <;> kernel_rfl)).trans (n0_eq k (fun x v4 h => kend x (fin v4 h)) _ h)
theorem gives {k : Nat} {a0 : GV} {a1 : GV} {v : GV} (e : run k a0 a1 [] finN = some v) : NN fn.spec_l17Same [a0, a1] = some v := nω_of (by kernel_rfl) ((run_eq k a0 a1 [] finN).trans e)
end S.spec_l17Same
/-! spec_l17Texts -/
namespace S.spec_l17Texts
noncomputable def c0 : Code := bodyOf Try.f90
@[simp] def n0 {R : Type} (k : Nat) (G : GX → GV → Heap → Option R) (v0 : GV) (h : Heap) : Option R := (kapp [(.str { data := #[] })] 1 16 .emp v0 h).bind fun r => kr r fun v5 h => G .ret v5 h
theorem n0_eq {R : Type} (k : Nat) (G : GX → GV → Heap → Option R) (σ : GS) (h : Heap) : KC k 6 c0 σ h (fun x σ h => G x (σ 2) h) = n0 k G (σ 0) h := by kernel_rfl
def run {R : Type} (k : Nat) (a0 : GV) (h : Heap) (fin : GV → Heap → Option R) : Option R := n0 k (fun x v2 h => kend x (fin v2 h)) a0 h
theorem run_eq {R : Type} (k : Nat) (a0 : GV) (h : Heap) (fin : GV → Heap → Option R) : kfun PP cfg NN HH k fn.spec_l17Texts [a0] h fin = run k a0 h fin := (kfun_eq (nt := 6) (c := c0) (show PP.funcs[fn.spec_l17Texts]? = some Try.f90 by kernel_rfl) (by kernel_rfl) (by kernel_rfl) (fun x σ h => by cases x <;> kernel_rfl)).trans (n0_eq k (fun x v2 h => kend x (fin v2 h)) _ h)
theorem gives {k : Nat} {a0 : GV} {b : Nat} {q : GV × List (List GV)} (e : run k a0 [] (finO b) = some q) : OO fn.spec_l17Texts [a0] b = some q := oω_of ((run_eq k a0 [] (finO b)).trans e)
end S.spec_l17Texts
/-! slices_ContainsFunc_impl_Server -/
namespace S.slices_ContainsFunc_impl_Server
noncomputable def c0 : Code := bodyOf Try.f98
@[simp] def n0 {R : Type} (k : Nat) (G : GX → GV → Heap → Option R) (v0 : GV) (v1 : GV) (h : Heap) : Option R := (kN NN fn.slices_IndexFunc_impl_Server [v0, v1] h).bind fun v7 => (kbin .geq v7 (.int .i64 0)).bind fun v8 => G .ret v8 h
theorem n0_eq {R : Type} (k : Nat) (G : GX → GV → Heap → Option R) (σ : GS) (h : Heap) : KC k 9 c0 σ h (fun x σ h => G x (σ 4) h) = n0 k G (σ 0) (σ 1) h := by kernel_rfl
def run {R : Type} (k : Nat) (a0 : GV) (a1 : GV) (h : Heap) (fin : GV → Heap → Option R) : Option R := n0 k (fun x v4 h => kend x (fin v4 h)) a0 a1 h
theorem run_eq {R : Type} (k : Nat) (a0 : GV) (a1 : GV) (h : Heap) (fin : GV → Heap → Option R) : kfun PP cfg NN HH k fn.slices_ContainsFunc_impl_Server [a0, a1] h fin = run k a0 a1 h fin := (kfun_eq (nt := 9) (c := c0) (show PP.funcs[fn.slices_ContainsFunc_impl_Server]? = some Try.f98 by kernel_rfl) (by kernel_rfl) (by kernel_rfl) (fun x σ h => by cases x <;> kernel_rfl)).trans (n0_eq k (fun x v4 h => kend x (fin v4 h)) _ h)
theorem gives {k : Nat} {a0 : GV} {a1 : GV} {v : GV} (e : run k a0 a1 [] finN = some v) : NN fn.slices_ContainsFunc_impl_Server [a0, a1] = some v := nω_of (by kernel_rfl) ((run_eq k a0 a1 [] finN).trans e)
end S.slices_ContainsFunc_impl_Server
/-! impl_ChainOk_1 -/
namespace S.impl_ChainOk_1
noncomputable def c0 : Code := bodyOf Try.f99
@[simp] def n0 {R : Type} (k : Nat) (G : GX → GV → Heap → Option R) (v0 : GV) (h : Heap) : Option R := kbox v0 h fun v1 h => (kloadA 2 h v1).bind fun v3 => (kN NN fn.impl_isServer [v3] h).bind fun v4 => (kun .not v4).bind fun v5 => G .ret v5 h
theorem n0_eq {R : Type} (k : Nat) (G : GX → GV → Heap → Option R) (σ : GS) (h : Heap) : KC k 6 c0 σ h (fun x σ h => G x (σ 2) h) = n0 k G (σ 0) h := by kernel_rfl
def run {R : Type} (k : Nat) (a0 : GV) (h : Heap) (fin : GV → Heap → Option R) : Option R := n0 k (fun x v2 h => kend x (fin v2 h)) a0 h
theorem run_eq {R : Type} (k : Nat) (a0 : GV) (h : Heap) (fin : GV → Heap → Option R) : kfun PP cfg NN HH k fn.impl_ChainOk_1 [a0] h fin = run k a0 h fin := (kfun_eq (nt := 6) (c := c0) (show PP.funcs[fn.impl_ChainOk_1]? = some Try.f99 by kernel_rfl) (by kernel_rfl) (by kernel_rfl) (fun x σ h => by cases x <;> kernel_rfl)).trans (n0_eq k (fun x v2 h => kend x (fin v2 h)) _ h)
theorem gives {k : Nat} {a0 : GV} {v : GV} (e : run k a0 [] finN = some v) : NN fn.impl_ChainOk_1 [a0] = some v := nω_of (by kernel_rfl) ((run_eq k a0 [] finN).trans e)
end S.impl_ChainOk_1
/-! impl_isServer -/
namespace S.impl_isServer
noncomputable def c0 : Code := bodyOf Try.f100
noncomputable def c1 : Code := cR c0
noncomputable def c2 : Code := cR c1
@[simp] def n2 {R : Type} (k : Nat) (G : GX → GV → Heap → Option R) (v2 : GV) (h : Heap) : Option R := G .ret v2 h
theorem n2_eq {R : Type} (k : Nat) (G : GX → GV → Heap → Option R) (σ : GS) (h : Heap) : KC k 21 c2 σ h (fun x σ h => G x (σ 2) h) = n2 k G (σ 2) h := by kernel_rfl
noncomputable def c3 : Code := cL c1
noncomputable def o3 : Array Oper := cO c3
@[simp] def g3_4 {R : Type} (k : Nat) (G : GX → GV → Heap → Option R) (v15 : GV) (v19 : GV) (h : Heap) : Option R := (kpick v15 v19 (.bool false)).bind fun v20 => G .nrm v20 h
theorem g3_4_eq {R : Type} (k : Nat) (G : GX → GV → Heap → Option R) (σ : GS) (h : Heap) : kgroups PP cfg NN HH 21 o3 [(none, [17, 18])] σ h (fun σ h => G .nrm (σ 2) h) = g3_4 k G (σ 15) (σ 19) h := by kernel_rfl
@[simp] def g3_3 {R : Type} (k : Nat) (G : GX → GV → Heap → Option R) (v1 : GV) (v15 : GV) (h : Heap) : Option R := bif tr true v15 then (kfa 0 v1).bind fun v16 => (kload1 h v16).bind fun v17 => (kN NN fn.slices_ContainsFunc_string [v17, (.fn fn.impl_isServer_1 [])] h).bind fun v18 => (kun .not v18).bind fun v19 => g3_4 k G v15 v19 h else g3_4 k G v15 .un h
theorem g3_3_eq0 {R : Type} (k : Nat) (G : GX → GV → Heap → Option R) (σ : GS) (h : Heap) : kgroup1 PP cfg NN HH 21 o3 (some (12, true), [13, 14, 15, 16]) σ h (fun σ h => g3_4 k G (σ 15) (σ 19) h) = g3_3 k G (σ 1) (σ 15) h := by kernel_rfl
theorem g3_3_eq {R : Type} (k : Nat) (G : GX → GV → Heap → Option R) (σ : GS) (h : Heap) : kgroups PP cfg NN HH 21 o3 [(some (12, true), [13, 14, 15, 16]), (none, [17, 18])] σ h (fun σ h => G .nrm (σ 2) h) = g3_3 k G (σ 1) (σ 15) h := (kgroups_cons (fun σ h => g3_4_eq k G σ h)).trans (g3_3_eq0 k G σ h)
@[simp] def g3_2 {R : Type} (k : Nat) (G : GX → GV → Heap → Option R) (v1 : GV) (v7 : GV) (v13 : GV) (h : Heap) : Option R := (kpick v7 v13 (.bool false)).bind fun v14 => g3_3 k G v1 v14 h
theorem g3_2_eq0 {R : Type} (k : Nat) (G : GX → GV → Heap → Option R) (σ : GS) (h : Heap) : kgroup1 PP cfg NN HH 21 o3 (none, [11, 12]) σ h (fun σ h => g3_3 k G (σ 1) (σ 15) h) = g3_2 k G (σ 1) (σ 7) (σ 13) h := by kernel_rfl
theorem g3_2_eq {R : Type} (k : Nat) (G : GX → GV → Heap → Option R) (σ : GS) (h : Heap) : kgroups PP cfg NN HH 21 o3 [(none, [11, 12]), (some (12, true), [13, 14, 15, 16]), (none, [17, 18])] σ h (fun σ h => G .nrm (σ 2) h) = g3_2 k G (σ 1) (σ 7) (σ 13) h := (kgroups_cons (fun σ h => g3_3_eq k G σ h)).trans (g3_2_eq0 k G σ h)
@[simp] def g3_1 {R : Type} (k : Nat) (G : GX → GV → Heap → Option R) (v1 : GV) (v7 : GV) (h : Heap) : Option R := bif tr true v7 then (kfa 1 v1).bind fun v8 => (kload1 h v8).bind fun v9 => (kfa 0 v1).bind fun v10 => (kload1 h v10).bind fun v11 => (klen v11).bind fun v12 => (kN NN fn.impl_in [v9, (.int .i64 0), v12] h).bind fun v13 => g3_2 k G v1 v7 v13 h else g3_2 k G v1 v7 .un h
theorem g3_1_eq0 {R : Type} (k : Nat) (G : GX → GV → Heap → Option R) (σ : GS) (h : Heap) : kgroup1 PP cfg NN HH 21 o3 (some (4, true), [5, 6, 7, 8, 9, 10]) σ h (fun σ h => g3_2 k G (σ 1) (σ 7) (σ 13) h) = g3_1 k G (σ 1) (σ 7) h := by kernel_rfl
theorem g3_1_eq {R : Type} (k : Nat) (G : GX → GV → Heap → Option R) (σ : GS) (h : Heap) : kgroups PP cfg NN HH 21 o3 [(some (4, true), [5, 6, 7, 8, 9, 10]), (none, [11, 12]), (some (12, true), [13, 14, 15, 16]), (none, [17, 18])] σ h (fun σ h => G .nrm (σ 2) h) = g3_1 k G (σ 1) (σ 7) h := (kgroups_cons (fun σ h => g3_2_eq k G σ h)).trans (g3_1_eq0 k G σ h)
@[simp] def g3_0 {R : Type} (k : Nat) (G : GX → GV → Heap → Option R) (v1 : GV) (h : Heap) : Option R := (kfa 0 v1).bind fun v3 => (kload1 h v3).bind fun v4 => (klen v4).bind fun v5 => (kbin .leq v5 (.int .i64 60)).bind fun v6 => g3_1 k G v1 v6 h
theorem g3_0_eq0 {R : Type} (k : Nat) (G : GX → GV → Heap → Option R) (σ : GS) (h : Heap) : kgroup1 PP cfg NN HH 21 o3 (none, [0, 1, 2, 3, 4]) σ h (fun σ h => g3_1 k G (σ 1) (σ 7) h) = g3_0 k G (σ 1) h := by kernel_rfl
theorem g3_0_eq {R : Type} (k : Nat) (G : GX → GV → Heap → Option R) (σ : GS) (h : Heap) : kgroups PP cfg NN HH 21 o3 [(none, [0, 1, 2, 3, 4]), (some (4, true), [5, 6, 7, 8, 9, 10]), (none, [11, 12]), (some (12, true), [13, 14, 15, 16]), (none, [17, 18])] σ h (fun σ h => G .nrm (σ 2) h) = g3_0 k G (σ 1) h := (kgroups_cons (fun σ h => g3_1_eq k G σ h)).trans (g3_0_eq0 k G σ h)
@[simp] def n3 {R : Type} (k : Nat) (G : GX → GV → Heap → Option R) (v1 : GV) (h : Heap) : Option R := g3_0 k G v1 h
theorem n3_eq {R : Type} (k : Nat) (G : GX → GV → Heap → Option R) (σ : GS) (h : Heap) : KC k 21 c3 σ h (fun x σ h => G x (σ 2) h) = n3 k G (σ 1) h := (kregion_eq (id := 1) (draw := false) (ops := o3) (gs := [(none, [0, 1, 2, 3, 4]), (some (4, true), [5, 6, 7, 8, 9, 10]), (none, [11, 12]), (some (12, true), [13, 14, 15, 16]), (none, [17, 18])]) (by kernel_rfl) (by kernel_rfl) (by kernel_rfl)).trans (g3_0_eq k G σ h)
@[simp] def n1 {R : Type} (k : Nat) (G : GX → GV → Heap → Option R) (v1 : GV) (h : Heap) : Option R := n3 k (fun x v2 h => kx x (n2 k G v2 h) (G x v2 h)) v1 h
theorem n1_eq {R : Type} (k : Nat) (G : GX → GV → Heap → Option R) (σ : GS) (h : Heap) : KC k 21 c1 σ h (fun x σ h => G x (σ 2) h) = n1 k G (σ 1) h := (kseq (b := c2) rfl (fun σ h => n2_eq k G σ h)).trans (n3_eq k (fun x v2 h => kx x (n2 k G v2 h) (G x v2 h)) σ h)
noncomputable def c4 : Code := cL c0
@[simp] def n0 {R : Type} (k : Nat) (G : GX → GV → Heap → Option R) (v0 : GV) (h : Heap) : Option R := kbox v0 h fun v1 h => n1 k G v1 h
theorem n0_eq0 {R : Type} (k : Nat) (G : GX → GV → Heap → Option R) (σ : GS) (h : Heap) : KC k 21 c4 σ h (fun x σ h => kx x (n1 k G (σ 1) h) (G x (σ 2) h)) = n0 k G (σ 0) h := by kernel_rfl
theorem n0_eq {R : Type} (k : Nat) (G : GX → GV → Heap → Option R) (σ : GS) (h : Heap) : KC k 21 c0 σ h (fun x σ h => G x (σ 2) h) = n0 k G (σ 0) h := (kseq (b := c1) rfl (fun σ h => n1_eq k G σ h)).trans (n0_eq0 k G σ h)
def run {R : Type} (k : Nat) (a0 : GV) (h : Heap) (fin : GV → Heap → Option R) : Option R := n0 k (fun x v2 h => kend x (fin v2 h)) a0 h
theorem run_eq {R : Type} (k : Nat) (a0 : GV) (h : Heap) (fin : GV → Heap → Option R) : kfun PP cfg NN HH k fn.impl_isServer [a0] h fin = run k a0 h fin := (kfun_eq (nt := 21) (c := c0) (show PP.funcs[fn.impl_isServer]? = some Try.f100 by kernel_rfl) (by kernel_rfl) (by kernel_rfl) (fun x σ h => by cases x <;> kernel_rfl)).trans (n0_eq k (fun x v2 h => kend x (fin v2 h)) _ h)
theorem gives {k : Nat} {a0 : GV} {v : GV} (e : run k a0 [] finN = some v) : NN fn.impl_isServer [a0] = some v := nω_of (by kernel_rfl) ((run_eq k a0 [] finN).trans e)
end S.impl_isServer
/-! slices_Equal_string -/
namespace S.slices_Equal_string
noncomputable def c0 : Code := bodyOf Try.f101
noncomputable def c1 : Code := cR c0
noncomputable def c2 : Code := cR c1
noncomputable def c3 : Code := cR c2
@[simp] def n3 {R : Type} (k : Nat) (G : GX → GV → Heap → Option R) (h : Heap) : Option R := G .ret (.bool true) h
theorem n3_eq {R : Type} (k : Nat) (G : GX → GV → Heap → Option R) (σ : GS) (h : Heap) : KC k 26 c3 σ h (fun x σ h => G x (σ 4) h) = n3 k G h := by kernel_rfl
noncomputable def c4 : Code := cL c2
noncomputable def c5 : Code := cR c4
noncomputable def c6 : Code := cL c5
noncomputable def c7 : Code := cL c6
noncomputable def c8 : Code := cR c7
noncomputable def c9 : Code := cR c8
noncomputable def c10 : Code := cR c9
@[simp] def n10 {R : Type} (k : Nat) (G : GX → GV → GV → GV → GV → GV → Heap → Option R) (v0 : GV) (v1 : GV) (v4 : GV) (v12 : GV) (v13 : GV) (h : Heap) : Option R := (kbin .add v13 (.int .i64 1)).bind fun v25 => G .nrm v0 v1 v4 v12 v25 h
theorem n10_eq {R : Type} (k : Nat) (G : GX → GV → GV → GV → GV → GV → Heap → Option R) (σ : GS) (h : Heap) : KC k 26 c10 σ h (fun x σ h => G x (σ 0) (σ 1) (σ 4) (σ 12) (σ 13) h) = n10 k G (σ 0) (σ 1) (σ 4) (σ 12) (σ 13) h := by kernel_rfl
noncomputable def c11 : Code := cL c9
noncomputable def c12 : Code := cL c11
@[simp] def n12 {R : Type} (k : Nat) (G : GX → GV → GV → GV → GV → GV → Heap → Option R) (v0 : GV) (v1 : GV) (v4 : GV) (v12 : GV) (v13 : GV) (h : Heap) : Option R := (kia 1 v0 v13).bind fun v18 => (kload1 h v18).bind fun v19 => (kia 1 v1 v13).bind fun v22 => (kload1 h v22).bind fun v23 => (kbin .neq v19 v23).bind fun v24 => kcond v24 (G .ret v0 v1 (.bool false) v12 v13 h) (G .nrm v0 v1 v4 v12 v13 h)
theorem n12_eq {R : Type} (k : Nat) (G : GX → GV → GV → GV → GV → GV → Heap → Option R) (σ : GS) (h : Heap) : KC k 26 c12 σ h (fun x σ h => G x (σ 0) (σ 1) (σ 4) (σ 12) (σ 13) h) = n12 k G (σ 0) (σ 1) (σ 4) (σ 12) (σ 13) h := by kernel_rfl
@[simp] def n11 {R : Type} (k : Nat) (G : GX → GV → GV → GV → GV → GV → Heap → Option R) (v0 : GV) (v1 : GV) (v4 : GV) (v12 : GV) (v13 : GV) (h : Heap) : Option R := n12 k (fun x v0 v1 v4 v12 v13 h => kb 1 x fun x => G x v0 v1 v4 v12 v13 h) v0 v1 v4 v12 v13 h
theorem n11_eq {R : Type} (k : Nat) (G : GX → GV → GV → GV → GV → GV → Heap → Option R) (σ : GS) (h : Heap) : KC k 26 c11 σ h (fun x σ h => G x (σ 0) (σ 1) (σ 4) (σ 12) (σ 13) h) = n11 k G (σ 0) (σ 1) (σ 4) (σ 12) (σ 13) h := (kblock_eq (a := c12) rfl).trans (n12_eq k (fun x v0 v1 v4 v12 v13 h => kb 1 x fun x => G x v0 v1 v4 v12 v13 h) σ h)
@[simp] def n9 {R : Type} (k : Nat) (G : GX → GV → GV → GV → GV → GV → Heap → Option R) (v0 : GV) (v1 : GV) (v4 : GV) (v12 : GV) (v13 : GV) (h : Heap) : Option R := n11 k (fun x v0 v1 v4 v12 v13 h => kx x (n10 k G v0 v1 v4 v12 v13 h) (G x v0 v1 v4 v12 v13 h)) v0 v1 v4 v12 v13 h
theorem n9_eq {R : Type} (k : Nat) (G : GX → GV → GV → GV → GV → GV → Heap → Option R) (σ : GS) (h : Heap) : KC k 26 c9 σ h (fun x σ h => G x (σ 0) (σ 1) (σ 4) (σ 12) (σ 13) h) = n9 k G (σ 0) (σ 1) (σ 4) (σ 12) (σ 13) h := (kseq (b := c10) rfl (fun σ h => n10_eq k G σ h)).trans (n11_eq k (fun x v0 v1 v4 v12 v13 h => kx x (n10 k G v0 v1 v4 v12 v13 h) (G x v0 v1 v4 v12 v13 h)) σ h)
noncomputable def c13 : Code := cL c8
@[simp] def n8 {R : Type} (k : Nat) (G : GX → GV → GV → GV → GV → GV → Heap → Option R) (v0 : GV) (v1 : GV) (v4 : GV) (v12 : GV) (v13 : GV) (v14 : GV) (h : Heap) : Option R := kcond v14 (n9 k G v0 v1 v4 v12 v13 h) (G (.ext 0) v0 v1 v4 v12 v13 h)
theorem n8_eq0 {R : Type} (k : Nat) (G : GX → GV → GV → GV → GV → GV → Heap → Option R) (σ : GS) (h : Heap) : KC k 26 c13 σ h (fun x σ h => kx x (n9 k G (σ 0) (σ 1) (σ 4) (σ 12) (σ 13) h) (G x (σ 0) (σ 1) (σ 4) (σ 12) (σ 13) h)) = n8 k G (σ 0) (σ 1) (σ 4) (σ 12) (σ 13) (σ 14) h := by kernel_rfl
theorem n8_eq {R : Type} (k : Nat) (G : GX → GV → GV → GV → GV → GV → Heap → Option R) (σ : GS) (h : Heap) : KC k 26 c8 σ h (fun x σ h => G x (σ 0) (σ 1) (σ 4) (σ 12) (σ 13) h) = n8 k G (σ 0) (σ 1) (σ 4) (σ 12) (σ 13) (σ 14) h := (kseq (b := c9) rfl (fun σ h => n9_eq k G σ h)).trans (n8_eq0 k G σ h)
noncomputable def c14 : Code := cL c7
@[simp] def n7 {R : Type} (k : Nat) (G : GX → GV → GV → GV → GV → GV → Heap → Option R) (v0 : GV) (v1 : GV) (v4 : GV) (v12 : GV) (v13 : GV) (h : Heap) : Option R := (kbin .lss v13 v12).bind fun v14 => n8 k G v0 v1 v4 v12 v13 v14 h
theorem n7_eq0 {R : Type} (k : Nat) (G : GX → GV → GV → GV → GV → GV → Heap → Option R) (σ : GS) (h : Heap) : KC k 26 c14 σ h (fun x σ h => kx x (n8 k G (σ 0) (σ 1) (σ 4) (σ 12) (σ 13) (σ 14) h) (G x (σ 0) (σ 1) (σ 4) (σ 12) (σ 13) h)) = n7 k G (σ 0) (σ 1) (σ 4) (σ 12) (σ 13) h := by kernel_rfl
theorem n7_eq {R : Type} (k : Nat) (G : GX → GV → GV → GV → GV → GV → Heap → Option R) (σ : GS) (h : Heap) : KC k 26 c7 σ h (fun x σ h => G x (σ 0) (σ 1) (σ 4) (σ 12) (σ 13) h) = n7 k G (σ 0) (σ 1) (σ 4) (σ 12) (σ 13) h := (kseq (b := c8) rfl (fun σ h => n8_eq k G σ h)).trans (n7_eq0 k G σ h)
def l6 {R : Type} (k : Nat) (G : GX → GV → Heap → Option R) : Nat → GV → GV → GV → GV → GV → Heap → Option R
  | 0, _, _, _, _, _, _ => none
  | r + 1, v0, v1, v4, v12, v13, h => n7 k (fun x v0 v1 v4 v12 v13 h => kx x (l6 k G r v0 v1 v4 v12 v13 h) (G x v4 h)) v0 v1 v4 v12 v13 h
theorem l6_eq {R : Type} (k : Nat) (G : GX → GV → Heap → Option R) : ∀ (r : Nat) (σ : GS) (h : Heap), kloop (fun σ h K => KC k 26 c7 σ h K) r σ h (fun x σ h => G x (σ 4) h) = l6 k G r (σ 0) (σ 1) (σ 4) (σ 12) (σ 13) h
  | 0, _, _ => rfl
  | r + 1, σ, h => (kloop_eq (fun σ h => l6_eq k G r σ h)).trans (n7_eq k (fun x v0 v1 v4 v12 v13 h => kx x (l6 k G r v0 v1 v4 v12 v13 h) (G x v4 h)) σ h)
@[simp] def n6 {R : Type} (k : Nat) (G : GX → GV → Heap → Option R) (v0 : GV) (v1 : GV) (v4 : GV) (v12 : GV) (v13 : GV) (h : Heap) : Option R := l6 k G k v0 v1 v4 v12 v13 h
theorem n6_eq {R : Type} (k : Nat) (G : GX → GV → Heap → Option R) (σ : GS) (h : Heap) : KC k 26 c6 σ h (fun x σ h => G x (σ 4) h) = n6 k G (σ 0) (σ 1) (σ 4) (σ 12) (σ 13) h := (kloopc_eq (a := c7) rfl).trans (l6_eq k G k σ h)
@[simp] def n5 {R : Type} (k : Nat) (G : GX → GV → Heap → Option R) (v0 : GV) (v1 : GV) (v4 : GV) (v12 : GV) (v13 : GV) (h : Heap) : Option R := n6 k (fun x v4 h => kb 0 x fun x => G x v4 h) v0 v1 v4 v12 v13 h
theorem n5_eq {R : Type} (k : Nat) (G : GX → GV → Heap → Option R) (σ : GS) (h : Heap) : KC k 26 c5 σ h (fun x σ h => G x (σ 4) h) = n5 k G (σ 0) (σ 1) (σ 4) (σ 12) (σ 13) h := (kblock_eq (a := c6) rfl).trans (n6_eq k (fun x v4 h => kb 0 x fun x => G x v4 h) σ h)
noncomputable def c15 : Code := cL c4
@[simp] def n4 {R : Type} (k : Nat) (G : GX → GV → Heap → Option R) (v0 : GV) (v1 : GV) (v4 : GV) (h : Heap) : Option R := (klen v0).bind fun v12 => n5 k G v0 v1 v4 v12 (.int .i64 0) h
theorem n4_eq0 {R : Type} (k : Nat) (G : GX → GV → Heap → Option R) (σ : GS) (h : Heap) : KC k 26 c15 σ h (fun x σ h => kx x (n5 k G (σ 0) (σ 1) (σ 4) (σ 12) (σ 13) h) (G x (σ 4) h)) = n4 k G (σ 0) (σ 1) (σ 4) h := by kernel_rfl
theorem n4_eq {R : Type} (k : Nat) (G : GX → GV → Heap → Option R) (σ : GS) (h : Heap) : KC k 26 c4 σ h (fun x σ h => G x (σ 4) h) = n4 k G (σ 0) (σ 1) (σ 4) h := (kseq (b := c5) rfl (fun σ h => n5_eq k G σ h)).trans (n4_eq0 k G σ h)
@[simp] def n2 {R : Type} (k : Nat) (G : GX → GV → Heap → Option R) (v0 : GV) (v1 : GV) (v4 : GV) (h : Heap) : Option R := n4 k (fun x v4 h => kx x (n3 k G h) (G x v4 h)) v0 v1 v4 h
theorem n2_eq {R : Type} (k : Nat) (G : GX → GV → Heap → Option R) (σ : GS) (h : Heap) : KC k 26 c2 σ h (fun x σ h => G x (σ 4) h) = n2 k G (σ 0) (σ 1) (σ 4) h := (kseq (b := c3) rfl (fun σ h => n3_eq k G σ h)).trans (n4_eq k (fun x v4 h => kx x (n3 k G h) (G x v4 h)) σ h)
noncomputable def c16 : Code := cL c1
@[simp] def n1 {R : Type} (k : Nat) (G : GX → GV → Heap → Option R) (v0 : GV) (v1 : GV) (v4 : GV) (h : Heap) : Option R := (klen v0).bind fun v7 => (klen v1).bind fun v9 => (kbin .neq v7 v9).bind fun v10 => kcond v10 (G .ret (.bool false) h) (n2 k G v0 v1 v4 h)
theorem n1_eq0 {R : Type} (k : Nat) (G : GX → GV → Heap → Option R) (σ : GS) (h : Heap) : KC k 26 c16 σ h (fun x σ h => kx x (n2 k G (σ 0) (σ 1) (σ 4) h) (G x (σ 4) h)) = n1 k G (σ 0) (σ 1) (σ 4) h := by kernel_rfl
theorem n1_eq {R : Type} (k : Nat) (G : GX → GV → Heap → Option R) (σ : GS) (h : Heap) : KC k 26 c1 σ h (fun x σ h => G x (σ 4) h) = n1 k G (σ 0) (σ 1) (σ 4) h := (kseq (b := c2) rfl (fun σ h => n2_eq k G σ h)).trans (n1_eq0 k G σ h)
noncomputable def c17 : Code := cL c0
@[simp] def n0 {R : Type} (k : Nat) (G : GX → GV → Heap → Option R) (v0 : GV) (v1 : GV) (h : Heap) : Option R := n1 k G v0 v1 (.bool false) h
theorem n0_eq0 {R : Type} (k : Nat) (G : GX → GV → Heap → Option R) (σ : GS) (h : Heap) : KC k 26 c17 σ h (fun x σ h => kx x (n1 k G (σ 0) (σ 1) (σ 4) h) (G x (σ 4) h)) = n0 k G (σ 0) (σ 1) h := by kernel_rfl
theorem n0_eq {R : Type} (k : Nat) (G : GX → GV → Heap → Option R) (σ : GS) (h : Heap) : KC k 26 c0 σ h (fun x σ h => G x (σ 4) h) = n0 k G (σ 0) (σ 1) h := (kseq (b := c1) rfl (fun σ h => n1_eq k G σ h)).trans (n0_eq0 k G σ h)
def run {R : Type} (k : Nat) (a0 : GV) (a1 : GV) (h : Heap) (fin : GV → Heap → Option R) : Option R := n0 k (fun x v4 h => kend x (fin v4 h)) a0 a1 h
theorem run_eq {R : Type} (k : Nat) (a0 : GV) (a1 : GV) (h : Heap) (fin : GV → Heap → Option R) : kfun PP cfg NN HH k fn.slices_Equal_string [a0, a1] h fin = run k a0 a1 h fin := (kfun_eq (nt := 26) (c := c0) (show PP.funcs[fn.slices_Equal_string]? = some Try.f101 by kernel_rfl) (by kernel_rfl) (by kernel_rfl) (fun x σ h => by cases x <;> kernel_rfl)).trans (n0_eq k (fun x v4 h => kend x (fin v4 h)) _ h)
theorem gives {k : Nat} {a0 : GV} {a1 : GV} {v : GV} (e : run k a0 a1 [] finN = some v) : NN fn.slices_Equal_string [a0, a1] = some v := nω_of (by kernel_rfl) ((run_eq k a0 a1 [] finN).trans e)
end S.slices_Equal_string
/-! slices_Concat_string -/
namespace S.slices_Concat_string
noncomputable def c0 : Code := bodyOf Try.f102
noncomputable def c1 : Code := cR c0
noncomputable def c2 : Code := cR c1
noncomputable def c3 : Code := cR c2
noncomputable def c4 : Code := cR c3
noncomputable def c5 : Code := cR c4
@[simp] def n5 {R : Type} (k : Nat) (G : GX → GV → Heap → Option R) (v6 : GV) (h : Heap) : Option R := G .ret v6 h
theorem n5_eq {R : Type} (k : Nat) (G : GX → GV → Heap → Option R) (σ : GS) (h : Heap) : KC k 36 c5 σ h (fun x σ h => G x (σ 2) h) = n5 k G (σ 6) h := by kernel_rfl
noncomputable def c6 : Code := cL c4
noncomputable def c7 : Code := cR c6
noncomputable def c8 : Code := cL c7
noncomputable def c9 : Code := cL c8
noncomputable def c10 : Code := cR c9
noncomputable def c11 : Code := cR c10
noncomputable def c12 : Code := cR c11
@[simp] def n12 {R : Type} (k : Nat) (G : GX → GV → GV → GV → GV → GV → Heap → Option R) (v2 : GV) (v6 : GV) (v25 : GV) (v26 : GV) (v27 : GV) (h : Heap) : Option R := (kbin .add v27 (.int .i64 1)).bind fun v34 => G .nrm v2 v6 v25 v26 v34 h
theorem n12_eq {R : Type} (k : Nat) (G : GX → GV → GV → GV → GV → GV → Heap → Option R) (σ : GS) (h : Heap) : KC k 36 c12 σ h (fun x σ h => G x (σ 2) (σ 6) (σ 25) (σ 26) (σ 27) h) = n12 k G (σ 2) (σ 6) (σ 25) (σ 26) (σ 27) h := by kernel_rfl
noncomputable def c13 : Code := cL c11
noncomputable def c14 : Code := cL c13
@[simp] def n14 {R : Type} (k : Nat) (G : GX → GV → GV → GV → GV → GV → Heap → Option R) (v2 : GV) (v6 : GV) (v25 : GV) (v26 : GV) (v27 : GV) (h : Heap) : Option R := (kia 1 v25 v27).bind fun v29 => (kload1 h v29).bind fun v30 => (kapp [(.str { data := #[] })] 1 16 v6 v30 h).bind fun r => kr r fun v33 h => G .nrm v2 v33 v25 v26 v27 h
theorem n14_eq {R : Type} (k : Nat) (G : GX → GV → GV → GV → GV → GV → Heap → Option R) (σ : GS) (h : Heap) : KC k 36 c14 σ h (fun x σ h => G x (σ 2) (σ 6) (σ 25) (σ 26) (σ 27) h) = n14 k G (σ 2) (σ 6) (σ 25) (σ 26) (σ 27) h := by kernel_rfl
@[simp] def n13 {R : Type} (k : Nat) (G : GX → GV → GV → GV → GV → GV → Heap → Option R) (v2 : GV) (v6 : GV) (v25 : GV) (v26 : GV) (v27 : GV) (h : Heap) : Option R := n14 k (fun x v2 v6 v25 v26 v27 h => kb 3 x fun x => G x v2 v6 v25 v26 v27 h) v2 v6 v25 v26 v27 h
theorem n13_eq {R : Type} (k : Nat) (G : GX → GV → GV → GV → GV → GV → Heap → Option R) (σ : GS) (h : Heap) : KC k 36 c13 σ h (fun x σ h => G x (σ 2) (σ 6) (σ 25) (σ 26) (σ 27) h) = n13 k G (σ 2) (σ 6) (σ 25) (σ 26) (σ 27) h := (kblock_eq (a := c14) rfl).trans (n14_eq k (fun x v2 v6 v25 v26 v27 h => kb 3 x fun x => G x v2 v6 v25 v26 v27 h) σ h)
@[simp] def n11 {R : Type} (k : Nat) (G : GX → GV → GV → GV → GV → GV → Heap → Option R) (v2 : GV) (v6 : GV) (v25 : GV) (v26 : GV) (v27 : GV) (h : Heap) : Option R := n13 k (fun x v2 v6 v25 v26 v27 h => kx x (n12 k G v2 v6 v25 v26 v27 h) (G x v2 v6 v25 v26 v27 h)) v2 v6 v25 v26 v27 h
theorem n11_eq {R : Type} (k : Nat) (G : GX → GV → GV → GV → GV → GV → Heap → Option R) (σ : GS) (h : Heap) : KC k 36 c11 σ h (fun x σ h => G x (σ 2) (σ 6) (σ 25) (σ 26) (σ 27) h) = n11 k G (σ 2) (σ 6) (σ 25) (σ 26) (σ 27) h := (kseq (b := c12) rfl (fun σ h => n12_eq k G σ h)).trans (n13_eq k (fun x v2 v6 v25 v26 v27 h => kx x (n12 k G v2 v6 v25 v26 v27 h) (G x v2 v6 v25 v26 v27 h)) σ h)
noncomputable def c15 : Code := cL c10
@[simp] def n10 {R : Type} (k : Nat) (G : GX → GV → GV → GV → GV → GV → Heap → Option R) (v2 : GV) (v6 : GV) (v25 : GV) (v26 : GV) (v27 : GV) (v28 : GV) (h : Heap) : Option R := kcond v28 (n11 k G v2 v6 v25 v26 v27 h) (G (.ext 2) v2 v6 v25 v26 v27 h)
theorem n10_eq0 {R : Type} (k : Nat) (G : GX → GV → GV → GV → GV → GV → Heap → Option R) (σ : GS) (h : Heap) : KC k 36 c15 σ h (fun x σ h => kx x (n11 k G (σ 2) (σ 6) (σ 25) (σ 26) (σ 27) h) (G x (σ 2) (σ 6) (σ 25) (σ 26) (σ 27) h)) = n10 k G (σ 2) (σ 6) (σ 25) (σ 26) (σ 27) (σ 28) h := by kernel_rfl
theorem n10_eq {R : Type} (k : Nat) (G : GX → GV → GV → GV → GV → GV → Heap → Option R) (σ : GS) (h : Heap) : KC k 36 c10 σ h (fun x σ h => G x (σ 2) (σ 6) (σ 25) (σ 26) (σ 27) h) = n10 k G (σ 2) (σ 6) (σ 25) (σ 26) (σ 27) (σ 28) h := (kseq (b := c11) rfl (fun σ h => n11_eq k G σ h)).trans (n10_eq0 k G σ h)
noncomputable def c16 : Code := cL c9
@[simp] def n9 {R : Type} (k : Nat) (G : GX → GV → GV → GV → GV → GV → Heap → Option R) (v2 : GV) (v6 : GV) (v25 : GV) (v26 : GV) (v27 : GV) (h : Heap) : Option R := (kbin .lss v27 v26).bind fun v28 => n10 k G v2 v6 v25 v26 v27 v28 h
theorem n9_eq0 {R : Type} (k : Nat) (G : GX → GV → GV → GV → GV → GV → Heap → Option R) (σ : GS) (h : Heap) : KC k 36 c16 σ h (fun x σ h => kx x (n10 k G (σ 2) (σ 6) (σ 25) (σ 26) (σ 27) (σ 28) h) (G x (σ 2) (σ 6) (σ 25) (σ 26) (σ 27) h)) = n9 k G (σ 2) (σ 6) (σ 25) (σ 26) (σ 27) h := by kernel_rfl
theorem n9_eq {R : Type} (k : Nat) (G : GX → GV → GV → GV → GV → GV → Heap → Option R) (σ : GS) (h : Heap) : KC k 36 c9 σ h (fun x σ h => G x (σ 2) (σ 6) (σ 25) (σ 26) (σ 27) h) = n9 k G (σ 2) (σ 6) (σ 25) (σ 26) (σ 27) h := (kseq (b := c10) rfl (fun σ h => n10_eq k G σ h)).trans (n9_eq0 k G σ h)
def l8 {R : Type} (k : Nat) (G : GX → GV → GV → Heap → Option R) : Nat → GV → GV → GV → GV → GV → Heap → Option R
  | 0, _, _, _, _, _, _ => none
  | r + 1, v2, v6, v25, v26, v27, h => n9 k (fun x v2 v6 v25 v26 v27 h => kx x (l8 k G r v2 v6 v25 v26 v27 h) (G x v2 v6 h)) v2 v6 v25 v26 v27 h
theorem l8_eq {R : Type} (k : Nat) (G : GX → GV → GV → Heap → Option R) : ∀ (r : Nat) (σ : GS) (h : Heap), kloop (fun σ h K => KC k 36 c9 σ h K) r σ h (fun x σ h => G x (σ 2) (σ 6) h) = l8 k G r (σ 2) (σ 6) (σ 25) (σ 26) (σ 27) h
  | 0, _, _ => rfl
  | r + 1, σ, h => (kloop_eq (fun σ h => l8_eq k G r σ h)).trans (n9_eq k (fun x v2 v6 v25 v26 v27 h => kx x (l8 k G r v2 v6 v25 v26 v27 h) (G x v2 v6 h)) σ h)
@[simp] def n8 {R : Type} (k : Nat) (G : GX → GV → GV → Heap → Option R) (v2 : GV) (v6 : GV) (v25 : GV) (v26 : GV) (v27 : GV) (h : Heap) : Option R := l8 k G k v2 v6 v25 v26 v27 h
theorem n8_eq {R : Type} (k : Nat) (G : GX → GV → GV → Heap → Option R) (σ : GS) (h : Heap) : KC k 36 c8 σ h (fun x σ h => G x (σ 2) (σ 6) h) = n8 k G (σ 2) (σ 6) (σ 25) (σ 26) (σ 27) h := (kloopc_eq (a := c9) rfl).trans (l8_eq k G k σ h)
@[simp] def n7 {R : Type} (k : Nat) (G : GX → GV → GV → Heap → Option R) (v2 : GV) (v6 : GV) (v25 : GV) (v26 : GV) (v27 : GV) (h : Heap) : Option R := n8 k (fun x v2 v6 h => kb 2 x fun x => G x v2 v6 h) v2 v6 v25 v26 v27 h
theorem n7_eq {R : Type} (k : Nat) (G : GX → GV → GV → Heap → Option R) (σ : GS) (h : Heap) : KC k 36 c7 σ h (fun x σ h => G x (σ 2) (σ 6) h) = n7 k G (σ 2) (σ 6) (σ 25) (σ 26) (σ 27) h := (kblock_eq (a := c8) rfl).trans (n8_eq k (fun x v2 v6 h => kb 2 x fun x => G x v2 v6 h) σ h)
noncomputable def c17 : Code := cL c6
@[simp] def n6 {R : Type} (k : Nat) (G : GX → GV → GV → Heap → Option R) (v0 : GV) (v2 : GV) (v6 : GV) (h : Heap) : Option R := (klen v0).bind fun v26 => n7 k G v2 v6 v0 v26 (.int .i64 0) h
theorem n6_eq0 {R : Type} (k : Nat) (G : GX → GV → GV → Heap → Option R) (σ : GS) (h : Heap) : KC k 36 c17 σ h (fun x σ h => kx x (n7 k G (σ 2) (σ 6) (σ 25) (σ 26) (σ 27) h) (G x (σ 2) (σ 6) h)) = n6 k G (σ 0) (σ 2) (σ 6) h := by kernel_rfl
theorem n6_eq {R : Type} (k : Nat) (G : GX → GV → GV → Heap → Option R) (σ : GS) (h : Heap) : KC k 36 c6 σ h (fun x σ h => G x (σ 2) (σ 6) h) = n6 k G (σ 0) (σ 2) (σ 6) h := (kseq (b := c7) rfl (fun σ h => n7_eq k G σ h)).trans (n6_eq0 k G σ h)
@[simp] def n4 {R : Type} (k : Nat) (G : GX → GV → Heap → Option R) (v0 : GV) (v2 : GV) (v6 : GV) (h : Heap) : Option R := n6 k (fun x v2 v6 h => kx x (n5 k G v6 h) (G x v2 h)) v0 v2 v6 h
theorem n4_eq {R : Type} (k : Nat) (G : GX → GV → Heap → Option R) (σ : GS) (h : Heap) : KC k 36 c4 σ h (fun x σ h => G x (σ 2) h) = n4 k G (σ 0) (σ 2) (σ 6) h := (kseq (b := c5) rfl (fun σ h => n5_eq k G σ h)).trans (n6_eq k (fun x v2 v6 h => kx x (n5 k G v6 h) (G x v2 h)) σ h)
noncomputable def c18 : Code := cL c3
@[simp] def n3 {R : Type} (k : Nat) (G : GX → GV → Heap → Option R) (v0 : GV) (v2 : GV) (v3 : GV) (h : Heap) : Option R := (HH fn.slices_Grow_string [.nils, v3] h).bind fun r => kr r fun v24 h => n4 k G v0 v2 v24 h
theorem n3_eq0 {R : Type} (k : Nat) (G : GX → GV → Heap → Option R) (σ : GS) (h : Heap) : KC k 36 c18 σ h (fun x σ h => kx x (n4 k G (σ 0) (σ 2) (σ 6) h) (G x (σ 2) h)) = n3 k G (σ 0) (σ 2) (σ 3) h := by kernel_rfl
theorem n3_eq {R : Type} (k : Nat) (G : GX → GV → Heap → Option R) (σ : GS) (h : Heap) : KC k 36 c3 σ h (fun x σ h => G x (σ 2) h) = n3 k G (σ 0) (σ 2) (σ 3) h := (kseq (b := c4) rfl (fun σ h => n4_eq k G σ h)).trans (n3_eq0 k G σ h)
noncomputable def c19 : Code := cL c2
noncomputable def c20 : Code := cR c19
noncomputable def c21 : Code := cL c20
noncomputable def c22 : Code := cL c21
noncomputable def c23 : Code := cR c22
noncomputable def c24 : Code := cR c23
noncomputable def c25 : Code := cR c24
@[simp] def n25 {R : Type} (k : Nat) (G : GX → GV → GV → GV → GV → GV → GV → Heap → Option R) (v0 : GV) (v2 : GV) (v3 : GV) (v9 : GV) (v10 : GV) (v11 : GV) (h : Heap) : Option R := (kbin .add v11 (.int .i64 1)).bind fun v22 => G .nrm v0 v2 v3 v9 v10 v22 h
theorem n25_eq {R : Type} (k : Nat) (G : GX → GV → GV → GV → GV → GV → GV → Heap → Option R) (σ : GS) (h : Heap) : KC k 36 c25 σ h (fun x σ h => G x (σ 0) (σ 2) (σ 3) (σ 9) (σ 10) (σ 11) h) = n25 k G (σ 0) (σ 2) (σ 3) (σ 9) (σ 10) (σ 11) h := by kernel_rfl
noncomputable def c26 : Code := cL c24
noncomputable def c27 : Code := cL c26
@[simp] def n27 {R : Type} (k : Nat) (G : GX → GV → GV → GV → GV → GV → GV → Heap → Option R) (v0 : GV) (v2 : GV) (v3 : GV) (v9 : GV) (v10 : GV) (v11 : GV) (h : Heap) : Option R := (kia 1 v9 v11).bind fun v13 => (kload1 h v13).bind fun v14 => (klen v14).bind fun v17 => (kbin .add v3 v17).bind fun v18 => (kbin .lss v18 (.int .i64 0)).bind fun v20 => kcond v20 (none) (G .nrm v0 v2 v18 v9 v10 v11 h)
theorem n27_eq {R : Type} (k : Nat) (G : GX → GV → GV → GV → GV → GV → GV → Heap → Option R) (σ : GS) (h : Heap) : KC k 36 c27 σ h (fun x σ h => G x (σ 0) (σ 2) (σ 3) (σ 9) (σ 10) (σ 11) h) = n27 k G (σ 0) (σ 2) (σ 3) (σ 9) (σ 10) (σ 11) h := by kernel_rfl
@[simp] def n26 {R : Type} (k : Nat) (G : GX → GV → GV → GV → GV → GV → GV → Heap → Option R) (v0 : GV) (v2 : GV) (v3 : GV) (v9 : GV) (v10 : GV) (v11 : GV) (h : Heap) : Option R := n27 k (fun x v0 v2 v3 v9 v10 v11 h => kb 1 x fun x => G x v0 v2 v3 v9 v10 v11 h) v0 v2 v3 v9 v10 v11 h
theorem n26_eq {R : Type} (k : Nat) (G : GX → GV → GV → GV → GV → GV → GV → Heap → Option R) (σ : GS) (h : Heap) : KC k 36 c26 σ h (fun x σ h => G x (σ 0) (σ 2) (σ 3) (σ 9) (σ 10) (σ 11) h) = n26 k G (σ 0) (σ 2) (σ 3) (σ 9) (σ 10) (σ 11) h := (kblock_eq (a := c27) rfl).trans (n27_eq k (fun x v0 v2 v3 v9 v10 v11 h => kb 1 x fun x => G x v0 v2 v3 v9 v10 v11 h) σ h)
@[simp] def n24 {R : Type} (k : Nat) (G : GX → GV → GV → GV → GV → GV → GV → Heap → Option R) (v0 : GV) (v2 : GV) (v3 : GV) (v9 : GV) (v10 : GV) (v11 : GV) (h : Heap) : Option R := n26 k (fun x v0 v2 v3 v9 v10 v11 h => kx x (n25 k G v0 v2 v3 v9 v10 v11 h) (G x v0 v2 v3 v9 v10 v11 h)) v0 v2 v3 v9 v10 v11 h
theorem n24_eq {R : Type} (k : Nat) (G : GX → GV → GV → GV → GV → GV → GV → Heap → Option R) (σ : GS) (h : Heap) : KC k 36 c24 σ h (fun x σ h => G x (σ 0) (σ 2) (σ 3) (σ 9) (σ 10) (σ 11) h) = n24 k G (σ 0) (σ 2) (σ 3) (σ 9) (σ 10) (σ 11) h := (kseq (b := c25) rfl (fun σ h => n25_eq k G σ h)).trans (n26_eq k (fun x v0 v2 v3 v9 v10 v11 h => kx x (n25 k G v0 v2 v3 v9 v10 v11 h) (G x v0 v2 v3 v9 v10 v11 h)) σ h)
noncomputable def c28 : Code := cL c23
@[simp] def n23 {R : Type} (k : Nat) (G : GX → GV → GV → GV → GV → GV → GV → Heap → Option R) (v0 : GV) (v2 : GV) (v3 : GV) (v9 : GV) (v10 : GV) (v11 : GV) (v12 : GV) (h : Heap) : Option R := kcond v12 (n24 k G v0 v2 v3 v9 v10 v11 h) (G (.ext 0) v0 v2 v3 v9 v10 v11 h)
theorem n23_eq0 {R : Type} (k : Nat) (G : GX → GV → GV → GV → GV → GV → GV → Heap → Option R) (σ : GS) (h : Heap) : KC k 36 c28 σ h (fun x σ h => kx x (n24 k G (σ 0) (σ 2) (σ 3) (σ 9) (σ 10) (σ 11) h) (G x (σ 0) (σ 2) (σ 3) (σ 9) (σ 10) (σ 11) h)) = n23 k G (σ 0) (σ 2) (σ 3) (σ 9) (σ 10) (σ 11) (σ 12) h := by kernel_rfl
theorem n23_eq {R : Type} (k : Nat) (G : GX → GV → GV → GV → GV → GV → GV → Heap → Option R) (σ : GS) (h : Heap) : KC k 36 c23 σ h (fun x σ h => G x (σ 0) (σ 2) (σ 3) (σ 9) (σ 10) (σ 11) h) = n23 k G (σ 0) (σ 2) (σ 3) (σ 9) (σ 10) (σ 11) (σ 12) h := (kseq (b := c24) rfl (fun σ h => n24_eq k G σ h)).trans (n23_eq0 k G σ h)
noncomputable def c29 : Code := cL c22
@[simp] def n22 {R : Type} (k : Nat) (G : GX → GV → GV → GV → GV → GV → GV → Heap → Option R) (v0 : GV) (v2 : GV) (v3 : GV) (v9 : GV) (v10 : GV) (v11 : GV) (h : Heap) : Option R := (kbin .lss v11 v10).bind fun v12 => n23 k G v0 v2 v3 v9 v10 v11 v12 h
theorem n22_eq0 {R : Type} (k : Nat) (G : GX → GV → GV → GV → GV → GV → GV → Heap → Option R) (σ : GS) (h : Heap) : KC k 36 c29 σ h (fun x σ h => kx x (n23 k G (σ 0) (σ 2) (σ 3) (σ 9) (σ 10) (σ 11) (σ 12) h) (G x (σ 0) (σ 2) (σ 3) (σ 9) (σ 10) (σ 11) h)) = n22 k G (σ 0) (σ 2) (σ 3) (σ 9) (σ 10) (σ 11) h := by kernel_rfl
theorem n22_eq {R : Type} (k : Nat) (G : GX → GV → GV → GV → GV → GV → GV → Heap → Option R) (σ : GS) (h : Heap) : KC k 36 c22 σ h (fun x σ h => G x (σ 0) (σ 2) (σ 3) (σ 9) (σ 10) (σ 11) h) = n22 k G (σ 0) (σ 2) (σ 3) (σ 9) (σ 10) (σ 11) h := (kseq (b := c23) rfl (fun σ h => n23_eq k G σ h)).trans (n22_eq0 k G σ h)
def l21 {R : Type} (k : Nat) (G : GX → GV → GV → GV → Heap → Option R) : Nat → GV → GV → GV → GV → GV → GV → Heap → Option R
  | 0, _, _, _, _, _, _, _ => none
  | r + 1, v0, v2, v3, v9, v10, v11, h => n22 k (fun x v0 v2 v3 v9 v10 v11 h => kx x (l21 k G r v0 v2 v3 v9 v10 v11 h) (G x v0 v2 v3 h)) v0 v2 v3 v9 v10 v11 h
theorem l21_eq {R : Type} (k : Nat) (G : GX → GV → GV → GV → Heap → Option R) : ∀ (r : Nat) (σ : GS) (h : Heap), kloop (fun σ h K => KC k 36 c22 σ h K) r σ h (fun x σ h => G x (σ 0) (σ 2) (σ 3) h) = l21 k G r (σ 0) (σ 2) (σ 3) (σ 9) (σ 10) (σ 11) h
  | 0, _, _ => rfl
  | r + 1, σ, h => (kloop_eq (fun σ h => l21_eq k G r σ h)).trans (n22_eq k (fun x v0 v2 v3 v9 v10 v11 h => kx x (l21 k G r v0 v2 v3 v9 v10 v11 h) (G x v0 v2 v3 h)) σ h)
@[simp] def n21 {R : Type} (k : Nat) (G : GX → GV → GV → GV → Heap → Option R) (v0 : GV) (v2 : GV) (v3 : GV) (v9 : GV) (v10 : GV) (v11 : GV) (h : Heap) : Option R := l21 k G k v0 v2 v3 v9 v10 v11 h
theorem n21_eq {R : Type} (k : Nat) (G : GX → GV → GV → GV → Heap → Option R) (σ : GS) (h : Heap) : KC k 36 c21 σ h (fun x σ h => G x (σ 0) (σ 2) (σ 3) h) = n21 k G (σ 0) (σ 2) (σ 3) (σ 9) (σ 10) (σ 11) h := (kloopc_eq (a := c22) rfl).trans (l21_eq k G k σ h)
@[simp] def n20 {R : Type} (k : Nat) (G : GX → GV → GV → GV → Heap → Option R) (v0 : GV) (v2 : GV) (v3 : GV) (v9 : GV) (v10 : GV) (v11 : GV) (h : Heap) : Option R := n21 k (fun x v0 v2 v3 h => kb 0 x fun x => G x v0 v2 v3 h) v0 v2 v3 v9 v10 v11 h
theorem n20_eq {R : Type} (k : Nat) (G : GX → GV → GV → GV → Heap → Option R) (σ : GS) (h : Heap) : KC k 36 c20 σ h (fun x σ h => G x (σ 0) (σ 2) (σ 3) h) = n20 k G (σ 0) (σ 2) (σ 3) (σ 9) (σ 10) (σ 11) h := (kblock_eq (a := c21) rfl).trans (n21_eq k (fun x v0 v2 v3 h => kb 0 x fun x => G x v0 v2 v3 h) σ h)
noncomputable def c30 : Code := cL c19
@[simp] def n19 {R : Type} (k : Nat) (G : GX → GV → GV → GV → Heap → Option R) (v0 : GV) (v2 : GV) (v3 : GV) (h : Heap) : Option R := (klen v0).bind fun v10 => n20 k G v0 v2 v3 v0 v10 (.int .i64 0) h
theorem n19_eq0 {R : Type} (k : Nat) (G : GX → GV → GV → GV → Heap → Option R) (σ : GS) (h : Heap) : KC k 36 c30 σ h (fun x σ h => kx x (n20 k G (σ 0) (σ 2) (σ 3) (σ 9) (σ 10) (σ 11) h) (G x (σ 0) (σ 2) (σ 3) h)) = n19 k G (σ 0) (σ 2) (σ 3) h := by kernel_rfl
theorem n19_eq {R : Type} (k : Nat) (G : GX → GV → GV → GV → Heap → Option R) (σ : GS) (h : Heap) : KC k 36 c19 σ h (fun x σ h => G x (σ 0) (σ 2) (σ 3) h) = n19 k G (σ 0) (σ 2) (σ 3) h := (kseq (b := c20) rfl (fun σ h => n20_eq k G σ h)).trans (n19_eq0 k G σ h)
@[simp] def n2 {R : Type} (k : Nat) (G : GX → GV → Heap → Option R) (v0 : GV) (v2 : GV) (v3 : GV) (h : Heap) : Option R := n19 k (fun x v0 v2 v3 h => kx x (n3 k G v0 v2 v3 h) (G x v2 h)) v0 v2 v3 h
theorem n2_eq {R : Type} (k : Nat) (G : GX → GV → Heap → Option R) (σ : GS) (h : Heap) : KC k 36 c2 σ h (fun x σ h => G x (σ 2) h) = n2 k G (σ 0) (σ 2) (σ 3) h := (kseq (b := c3) rfl (fun σ h => n3_eq k G σ h)).trans (n19_eq k (fun x v0 v2 v3 h => kx x (n3 k G v0 v2 v3 h) (G x v2 h)) σ h)
noncomputable def c31 : Code := cL c1
@[simp] def n1 {R : Type} (k : Nat) (G : GX → GV → Heap → Option R) (v0 : GV) (v2 : GV) (h : Heap) : Option R := n2 k G v0 v2 (.int .i64 0) h
theorem n1_eq0 {R : Type} (k : Nat) (G : GX → GV → Heap → Option R) (σ : GS) (h : Heap) : KC k 36 c31 σ h (fun x σ h => kx x (n2 k G (σ 0) (σ 2) (σ 3) h) (G x (σ 2) h)) = n1 k G (σ 0) (σ 2) h := by kernel_rfl
theorem n1_eq {R : Type} (k : Nat) (G : GX → GV → Heap → Option R) (σ : GS) (h : Heap) : KC k 36 c1 σ h (fun x σ h => G x (σ 2) h) = n1 k G (σ 0) (σ 2) h := (kseq (b := c2) rfl (fun σ h => n2_eq k G σ h)).trans (n1_eq0 k G σ h)
noncomputable def c32 : Code := cL c0
@[simp] def n0 {R : Type} (k : Nat) (G : GX → GV → Heap → Option R) (v0 : GV) (h : Heap) : Option R := n1 k G v0 .nils h
theorem n0_eq0 {R : Type} (k : Nat) (G : GX → GV → Heap → Option R) (σ : GS) (h : Heap) : KC k 36 c32 σ h (fun x σ h => kx x (n1 k G (σ 0) (σ 2) h) (G x (σ 2) h)) = n0 k G (σ 0) h := by kernel_rfl
theorem n0_eq {R : Type} (k : Nat) (G : GX → GV → Heap → Option R) (σ : GS) (h : Heap) : KC k 36 c0 σ h (fun x σ h => G x (σ 2) h) = n0 k G (σ 0) h := (kseq (b := c1) rfl (fun σ h => n1_eq k G σ h)).trans (n0_eq0 k G σ h)
def run {R : Type} (k : Nat) (a0 : GV) (h : Heap) (fin : GV → Heap → Option R) : Option R := n0 k (fun x v2 h => kend x (fin v2 h)) a0 h
theorem run_eq {R : Type} (k : Nat) (a0 : GV) (h : Heap) (fin : GV → Heap → Option R) : kfun PP cfg NN HH k fn.slices_Concat_string [a0] h fin = run k a0 h fin := (kfun_eq (nt := 36) (c := c0) (show PP.funcs[fn.slices_Concat_string]? = some Try.f102 by kernel_rfl) (by kernel_rfl) (by kernel_rfl) (fun x σ h => by cases x <;> kernel_rfl)).trans (n0_eq k (fun x v2 h => kend x (fin v2 h)) _ h)
theorem gives {k : Nat} {a0 : GV} {v : GV} (e : run k a0 [] finN = some v) : NN fn.slices_Concat_string [a0] = some v := nω_of (by kernel_rfl) ((run_eq k a0 [] finN).trans e)
end S.slices_Concat_string
/-! impl_areUp -/
namespace S.impl_areUp
noncomputable def c0 : Code := bodyOf Try.f103
noncomputable def c1 : Code := cR c0
noncomputable def c2 : Code := cR c1
@[simp] def n2 {R : Type} (k : Nat) (G : GX → GV → Heap → Option R) (v6 : GV) (h : Heap) : Option R := G .ret v6 h
theorem n2_eq {R : Type} (k : Nat) (G : GX → GV → Heap → Option R) (σ : GS) (h : Heap) : KC k 15 c2 σ h (fun x σ h => G x (σ 6) h) = n2 k G (σ 6) h := by kernel_rfl
noncomputable def c3 : Code := cL c1
noncomputable def o3 : Array Oper := cO c3
@[simp] def g3_2 {R : Type} (k : Nat) (G : GX → GV → Heap → Option R) (v9 : GV) (v13 : GV) (h : Heap) : Option R := (kpick v9 v13 (.bool false)).bind fun v14 => G .nrm v14 h
theorem g3_2_eq {R : Type} (k : Nat) (G : GX → GV → Heap → Option R) (σ : GS) (h : Heap) : kgroups PP cfg NN HH 15 o3 [(none, [7, 8])] σ h (fun σ h => G .nrm (σ 6) h) = g3_2 k G (σ 9) (σ 13) h := by kernel_rfl
@[simp] def g3_1 {R : Type} (k : Nat) (G : GX → GV → Heap → Option R) (v0 : GV) (v4 : GV) (v5 : GV) (v9 : GV) (h : Heap) : Option R := bif tr true v9 then (kN NN fn.slices_ContainsFunc_int64 [v0, (.fn fn.impl_areUp_1 [v4, v5])] h).bind fun v12 => (kun .not v12).bind fun v13 => g3_2 k G v9 v13 h else g3_2 k G v9 .un h
theorem g3_1_eq0 {R : Type} (k : Nat) (G : GX → GV → Heap → Option R) (σ : GS) (h : Heap) : kgroup1 PP cfg NN HH 15 o3 (some (2, true), [3, 4, 5, 6]) σ h (fun σ h => g3_2 k G (σ 9) (σ 13) h) = g3_1 k G (σ 0) (σ 4) (σ 5) (σ 9) h := by kernel_rfl
theorem g3_1_eq {R : Type} (k : Nat) (G : GX → GV → Heap → Option R) (σ : GS) (h : Heap) : kgroups PP cfg NN HH 15 o3 [(some (2, true), [3, 4, 5, 6]), (none, [7, 8])] σ h (fun σ h => G .nrm (σ 6) h) = g3_1 k G (σ 0) (σ 4) (σ 5) (σ 9) h := (kgroups_cons (fun σ h => g3_2_eq k G σ h)).trans (g3_1_eq0 k G σ h)
@[simp] def g3_0 {R : Type} (k : Nat) (G : GX → GV → Heap → Option R) (v0 : GV) (v4 : GV) (v5 : GV) (h : Heap) : Option R := (kN NN fn.slices_IsSorted_int64 [v0] h).bind fun v8 => g3_1 k G v0 v4 v5 v8 h
theorem g3_0_eq0 {R : Type} (k : Nat) (G : GX → GV → Heap → Option R) (σ : GS) (h : Heap) : kgroup1 PP cfg NN HH 15 o3 (none, [0, 1, 2]) σ h (fun σ h => g3_1 k G (σ 0) (σ 4) (σ 5) (σ 9) h) = g3_0 k G (σ 0) (σ 4) (σ 5) h := by kernel_rfl
theorem g3_0_eq {R : Type} (k : Nat) (G : GX → GV → Heap → Option R) (σ : GS) (h : Heap) : kgroups PP cfg NN HH 15 o3 [(none, [0, 1, 2]), (some (2, true), [3, 4, 5, 6]), (none, [7, 8])] σ h (fun σ h => G .nrm (σ 6) h) = g3_0 k G (σ 0) (σ 4) (σ 5) h := (kgroups_cons (fun σ h => g3_1_eq k G σ h)).trans (g3_0_eq0 k G σ h)
@[simp] def n3 {R : Type} (k : Nat) (G : GX → GV → Heap → Option R) (v0 : GV) (v4 : GV) (v5 : GV) (h : Heap) : Option R := g3_0 k G v0 v4 v5 h
theorem n3_eq {R : Type} (k : Nat) (G : GX → GV → Heap → Option R) (σ : GS) (h : Heap) : KC k 15 c3 σ h (fun x σ h => G x (σ 6) h) = n3 k G (σ 0) (σ 4) (σ 5) h := (kregion_eq (id := 1) (draw := false) (ops := o3) (gs := [(none, [0, 1, 2]), (some (2, true), [3, 4, 5, 6]), (none, [7, 8])]) (by kernel_rfl) (by kernel_rfl) (by kernel_rfl)).trans (g3_0_eq k G σ h)
@[simp] def n1 {R : Type} (k : Nat) (G : GX → GV → Heap → Option R) (v0 : GV) (v4 : GV) (v5 : GV) (h : Heap) : Option R := n3 k (fun x v6 h => kx x (n2 k G v6 h) (G x v6 h)) v0 v4 v5 h
theorem n1_eq {R : Type} (k : Nat) (G : GX → GV → Heap → Option R) (σ : GS) (h : Heap) : KC k 15 c1 σ h (fun x σ h => G x (σ 6) h) = n1 k G (σ 0) (σ 4) (σ 5) h := (kseq (b := c2) rfl (fun σ h => n2_eq k G σ h)).trans (n3_eq k (fun x v6 h => kx x (n2 k G v6 h) (G x v6 h)) σ h)
noncomputable def c4 : Code := cL c0
@[simp] def n0 {R : Type} (k : Nat) (G : GX → GV → Heap → Option R) (v0 : GV) (v1 : GV) (v2 : GV) (h : Heap) : Option R := kbox v1 h fun v4 h => kbox v2 h fun v5 h => n1 k G v0 v4 v5 h
theorem n0_eq0 {R : Type} (k : Nat) (G : GX → GV → Heap → Option R) (σ : GS) (h : Heap) : KC k 15 c4 σ h (fun x σ h => kx x (n1 k G (σ 0) (σ 4) (σ 5) h) (G x (σ 6) h)) = n0 k G (σ 0) (σ 1) (σ 2) h := by kernel_rfl
theorem n0_eq {R : Type} (k : Nat) (G : GX → GV → Heap → Option R) (σ : GS) (h : Heap) : KC k 15 c0 σ h (fun x σ h => G x (σ 6) h) = n0 k G (σ 0) (σ 1) (σ 2) h := (kseq (b := c1) rfl (fun σ h => n1_eq k G σ h)).trans (n0_eq0 k G σ h)
def run {R : Type} (k : Nat) (a0 : GV) (a1 : GV) (a2 : GV) (h : Heap) (fin : GV → Heap → Option R) : Option R := n0 k (fun x v6 h => kend x (fin v6 h)) a0 a1 a2 h
theorem run_eq {R : Type} (k : Nat) (a0 : GV) (a1 : GV) (a2 : GV) (h : Heap) (fin : GV → Heap → Option R) : kfun PP cfg NN HH k fn.impl_areUp [a0, a1, a2] h fin = run k a0 a1 a2 h fin := (kfun_eq (nt := 15) (c := c0) (show PP.funcs[fn.impl_areUp]? = some Try.f103 by kernel_rfl) (by kernel_rfl) (by kernel_rfl) (fun x σ h => by cases x <;> kernel_rfl)).trans (n0_eq k (fun x v6 h => kend x (fin v6 h)) _ h)
theorem gives {k : Nat} {a0 : GV} {a1 : GV} {a2 : GV} {v : GV} (e : run k a0 a1 a2 [] finN = some v) : NN fn.impl_areUp [a0, a1, a2] = some v := nω_of (by kernel_rfl) ((run_eq k a0 a1 a2 [] finN).trans e)
end S.impl_areUp
/-! slices_Clone_int64 -/
namespace S.slices_Clone_int64
noncomputable def c0 : Code := bodyOf Try.f105
@[simp] def n0 {R : Type} (k : Nat) (G : GX → GV → Heap → Option R) (v0 : GV) (h : Heap) : Option R := (gbinop PP .eql 58 (.tmp 3) (.const (.slice none 0 0)) v0 .nils).bind fun v4 => kcond v4 (G .ret .nils h) ((kapp [(.int .i64 0)] 1 8 .emp v0 h).bind fun r => kr r fun v7 h => G .ret v7 h)
theorem n0_eq {R : Type} (k : Nat) (G : GX → GV → Heap → Option R) (σ : GS) (h : Heap) : KC k 8 c0 σ h (fun x σ h => G x (σ 2) h) = n0 k G (σ 0) h := by kernel_rfl
def run {R : Type} (k : Nat) (a0 : GV) (h : Heap) (fin : GV → Heap → Option R) : Option R := n0 k (fun x v2 h => kend x (fin v2 h)) a0 h
theorem run_eq {R : Type} (k : Nat) (a0 : GV) (h : Heap) (fin : GV → Heap → Option R) : kfun PP cfg NN HH k fn.slices_Clone_int64 [a0] h fin = run k a0 h fin := (kfun_eq (nt := 8) (c := c0) (show PP.funcs[fn.slices_Clone_int64]? = some Try.f105 by kernel_rfl) (by kernel_rfl) (by kernel_rfl) (fun x σ h => by cases x <;> kernel_rfl)).trans (n0_eq k (fun x v2 h => kend x (fin v2 h)) _ h)
theorem gives {k : Nat} {a0 : GV} {b : Nat} {q : GV × List (List GV)} (e : run k a0 [] (finO b) = some q) : OO fn.slices_Clone_int64 [a0] b = some q := oω_of ((run_eq k a0 [] (finO b)).trans e)
end S.slices_Clone_int64
/-! impl_Chain_copied -/
namespace S.impl_Chain_copied
noncomputable def c0 : Code := bodyOf Try.f121
noncomputable def c1 : Code := cR c0
noncomputable def c2 : Code := cR c1
noncomputable def c3 : Code := cR c2
noncomputable def c4 : Code := cR c3
@[simp] def n4 {R : Type} (k : Nat) (G : GX → GV → Heap → Option R) (v2 : GV) (v3 : GV) (h : Heap) : Option R := (kloadA 3 h v3).bind fun v56 => (kstore 3 h v2 v56).bind fun h => G .ret v2 h
theorem n4_eq {R : Type} (k : Nat) (G : GX → GV → Heap → Option R) (σ : GS) (h : Heap) : KC k 57 c4 σ h (fun x σ h => G x (σ 2) h) = n4 k G (σ 2) (σ 3) h := by kernel_rfl
noncomputable def c5 : Code := cL c3
noncomputable def c6 : Code := cR c5
noncomputable def c7 : Code := cL c6
noncomputable def c8 : Code := cL c7
noncomputable def c9 : Code := cR c8
noncomputable def c10 : Code := cR c9
noncomputable def c11 : Code := cR c10
@[simp] def n11 {R : Type} (k : Nat) (G : GX → GV → GV → GV → GV → GV → Heap → Option R) (v1 : GV) (v2 : GV) (v3 : GV) (v29 : GV) (v30 : GV) (h : Heap) : Option R := (kbin .add v30 (.int .i64 1)).bind fun v55 => G .nrm v1 v2 v3 v29 v55 h
theorem n11_eq {R : Type} (k : Nat) (G : GX → GV → GV → GV → GV → GV → Heap → Option R) (σ : GS) (h : Heap) : KC k 57 c11 σ h (fun x σ h => G x (σ 1) (σ 2) (σ 3) (σ 29) (σ 30) h) = n11 k G (σ 1) (σ 2) (σ 3) (σ 29) (σ 30) h := by kernel_rfl
noncomputable def c12 : Code := cL c10
noncomputable def c13 : Code := cL c12
noncomputable def c14 : Code := cR c13
noncomputable def o14 : Array Oper := cO c14
@[simp] def g14_0 {R : Type} (k : Nat) (G : GX → GV → GV → GV → GV → GV → Heap → Option R) (v1 : GV) (v2 : GV) (v3 : GV) (v6 : GV) (v29 : GV) (v30 : GV) (rs : List Rec) (h : Heap) : Option R := (kfa 1 v3).bind fun v33 => (kload1 h v33).bind fun v34 => (kfa 1 v1).bind fun v35 => (kload1 h v35).bind fun v36 => (kia 1 v36 v6).bind fun v38 => (kload1 h v38).bind fun v39 => kold h fun h0 => (kF true HH fn.slices_Clone_string [v39] h).bind fun r => kr r fun v40 h => krs (rs ++ [⟨7, h0.length, h.length, ⟨[v39].flatMap (kborr h0), []⟩⟩]) fun rs => kold h fun h0 => (gfill (fun i => some (i * 1, 1)) (zeros [.nils] 1) [(0, v40)]).bind fun c => kbs 1 1 c h fun v41 h => krs (rs ++ [⟨8, h0.length, h.length, ⟨[], []⟩⟩]) fun rs => kold h fun h0 => (kapp [.nils] 1 24 v34 v41 h).bind fun r => kr r fun v42 h => krs (rs ++ [⟨9, h0.length, h.length, ⟨kblk v34 ++ kblk v41, kblk v34⟩⟩]) fun rs => (kfa 2 v3).bind fun v43 => kold h fun h0 => (kload1 h v43).bind fun v44 => krs (rs ++ [⟨11, h0.length, h.length, ⟨kblk v43, []⟩⟩]) fun rs => (kfa 2 v1).bind fun v45 => kold h fun h0 => (kload1 h v45).bind fun v46 => krs (rs ++ [⟨13, h0.length, h.length, ⟨kblk v45, []⟩⟩]) fun rs => (kia 1 v46 v6).bind fun v48 => kold h fun h0 => (kload1 h v48).bind fun v49 => krs (rs ++ [⟨16, h0.length, h.length, ⟨kblk v48, []⟩⟩]) fun rs => (kF true HH fn.slices_Clone_int64 [v49] h).bind fun r => kr r fun v50 h => (gfill (fun i => some (i * 1, 1)) (zeros [.nils] 1) [(0, v50)]).bind fun c => kbs 1 1 c h fun v51 h => (kapp [.nils] 1 24 v44 v51 h).bind fun r => kr r fun v52 h => (kfa 1 v3).bind fun v53 => (kstore 1 h v53 v42).bind fun h => (kfa 2 v3).bind fun v54 => (kstore 1 h v54 v52).bind fun h => bif chk [(7, 11), (7, 13), (7, 16), (8, 11), (8, 13), (8, 16), (9, 11), (9, 13), (9, 16)] rs then G .nrm v1 v2 v3 v29 v30 h else none
theorem g14_0_eq {R : Type} (k : Nat) (G : GX → GV → GV → GV → GV → GV → Heap → Option R) (rs : List Rec) (σ : GS) (h : Heap) : kgroupsD PP cfg NN HH 57 o14 [(7, 11), (7, 13), (7, 16), (8, 11), (8, 13), (8, 16), (9, 11), (9, 13), (9, 16)] [(none, [0, 1, 2, 3, 4, 5, 6, 7, 8, 9, 10, 11, 12, 13, 14, 15, 16, 17, 18, 19, 20, 21, 22, 23])] rs σ h (fun rs σ h => bif chk [(7, 11), (7, 13), (7, 16), (8, 11), (8, 13), (8, 16), (9, 11), (9, 13), (9, 16)] rs then G .nrm (σ 1) (σ 2) (σ 3) (σ 29) (σ 30) h else none) = g14_0 k G (σ 1) (σ 2) (σ 3) (σ 6) (σ 29) (σ 30) rs h := by kernel_rfl
@[simp] def n14 {R : Type} (k : Nat) (G : GX → GV → GV → GV → GV → GV → Heap → Option R) (v1 : GV) (v2 : GV) (v3 : GV) (v6 : GV) (v29 : GV) (v30 : GV) (h : Heap) : Option R := g14_0 k G v1 v2 v3 v6 v29 v30 [] h
theorem n14_eq {R : Type} (k : Nat) (G : GX → GV → GV → GV → GV → GV → Heap → Option R) (σ : GS) (h : Heap) : KC k 57 c14 σ h (fun x σ h => G x (σ 1) (σ 2) (σ 3) (σ 29) (σ 30) h) = n14 k G (σ 1) (σ 2) (σ 3) (σ 6) (σ 29) (σ 30) h := (kregionD_eq (id := 10) (draw := true) (ops := o14) (gs := [(none, [0, 1, 2, 3, 4, 5, 6, 7, 8, 9, 10, 11, 12, 13, 14, 15, 16, 17, 18, 19, 20, 21, 22, 23])]) (bad := [(7, 11), (7, 13), (7, 16), (8, 11), (8, 13), (8, 16), (9, 11), (9, 13), (9, 16)]) (by kernel_rfl) (by kernel_rfl) (by kernel_rfl) (by kernel_rfl) (by kernel_rfl)).trans (g14_0_eq k G [] σ h)
noncomputable def c15 : Code := cL c13
@[simp] def n13 {R : Type} (k : Nat) (G : GX → GV → GV → GV → GV → GV → Heap → Option R) (v1 : GV) (v2 : GV) (v3 : GV) (v29 : GV) (v30 : GV) (h : Heap) : Option R := n14 k G v1 v2 v3 v30 v29 v30 h
theorem n13_eq0 {R : Type} (k : Nat) (G : GX → GV → GV → GV → GV → GV → Heap → Option R) (σ : GS) (h : Heap) : KC k 57 c15 σ h (fun x σ h => kx x (n14 k G (σ 1) (σ 2) (σ 3) (σ 6) (σ 29) (σ 30) h) (G x (σ 1) (σ 2) (σ 3) (σ 29) (σ 30) h)) = n13 k G (σ 1) (σ 2) (σ 3) (σ 29) (σ 30) h := by kernel_rfl
theorem n13_eq {R : Type} (k : Nat) (G : GX → GV → GV → GV → GV → GV → Heap → Option R) (σ : GS) (h : Heap) : KC k 57 c13 σ h (fun x σ h => G x (σ 1) (σ 2) (σ 3) (σ 29) (σ 30) h) = n13 k G (σ 1) (σ 2) (σ 3) (σ 29) (σ 30) h := (kseq (b := c14) rfl (fun σ h => n14_eq k G σ h)).trans (n13_eq0 k G σ h)
@[simp] def n12 {R : Type} (k : Nat) (G : GX → GV → GV → GV → GV → GV → Heap → Option R) (v1 : GV) (v2 : GV) (v3 : GV) (v29 : GV) (v30 : GV) (h : Heap) : Option R := n13 k (fun x v1 v2 v3 v29 v30 h => kb 3 x fun x => G x v1 v2 v3 v29 v30 h) v1 v2 v3 v29 v30 h
theorem n12_eq {R : Type} (k : Nat) (G : GX → GV → GV → GV → GV → GV → Heap → Option R) (σ : GS) (h : Heap) : KC k 57 c12 σ h (fun x σ h => G x (σ 1) (σ 2) (σ 3) (σ 29) (σ 30) h) = n12 k G (σ 1) (σ 2) (σ 3) (σ 29) (σ 30) h := (kblock_eq (a := c13) rfl).trans (n13_eq k (fun x v1 v2 v3 v29 v30 h => kb 3 x fun x => G x v1 v2 v3 v29 v30 h) σ h)
@[simp] def n10 {R : Type} (k : Nat) (G : GX → GV → GV → GV → GV → GV → Heap → Option R) (v1 : GV) (v2 : GV) (v3 : GV) (v29 : GV) (v30 : GV) (h : Heap) : Option R := n12 k (fun x v1 v2 v3 v29 v30 h => kx x (n11 k G v1 v2 v3 v29 v30 h) (G x v1 v2 v3 v29 v30 h)) v1 v2 v3 v29 v30 h
theorem n10_eq {R : Type} (k : Nat) (G : GX → GV → GV → GV → GV → GV → Heap → Option R) (σ : GS) (h : Heap) : KC k 57 c10 σ h (fun x σ h => G x (σ 1) (σ 2) (σ 3) (σ 29) (σ 30) h) = n10 k G (σ 1) (σ 2) (σ 3) (σ 29) (σ 30) h := (kseq (b := c11) rfl (fun σ h => n11_eq k G σ h)).trans (n12_eq k (fun x v1 v2 v3 v29 v30 h => kx x (n11 k G v1 v2 v3 v29 v30 h) (G x v1 v2 v3 v29 v30 h)) σ h)
noncomputable def c16 : Code := cL c9
@[simp] def n9 {R : Type} (k : Nat) (G : GX → GV → GV → GV → GV → GV → Heap → Option R) (v1 : GV) (v2 : GV) (v3 : GV) (v29 : GV) (v30 : GV) (v31 : GV) (h : Heap) : Option R := kcond v31 (n10 k G v1 v2 v3 v29 v30 h) (G (.ext 2) v1 v2 v3 v29 v30 h)
theorem n9_eq0 {R : Type} (k : Nat) (G : GX → GV → GV → GV → GV → GV → Heap → Option R) (σ : GS) (h : Heap) : KC k 57 c16 σ h (fun x σ h => kx x (n10 k G (σ 1) (σ 2) (σ 3) (σ 29) (σ 30) h) (G x (σ 1) (σ 2) (σ 3) (σ 29) (σ 30) h)) = n9 k G (σ 1) (σ 2) (σ 3) (σ 29) (σ 30) (σ 31) h := by kernel_rfl
theorem n9_eq {R : Type} (k : Nat) (G : GX → GV → GV → GV → GV → GV → Heap → Option R) (σ : GS) (h : Heap) : KC k 57 c9 σ h (fun x σ h => G x (σ 1) (σ 2) (σ 3) (σ 29) (σ 30) h) = n9 k G (σ 1) (σ 2) (σ 3) (σ 29) (σ 30) (σ 31) h := (kseq (b := c10) rfl (fun σ h => n10_eq k G σ h)).trans (n9_eq0 k G σ h)
noncomputable def c17 : Code := cL c8
@[simp] def n8 {R : Type} (k : Nat) (G : GX → GV → GV → GV → GV → GV → Heap → Option R) (v1 : GV) (v2 : GV) (v3 : GV) (v29 : GV) (v30 : GV) (h : Heap) : Option R := (kbin .lss v30 v29).bind fun v31 => n9 k G v1 v2 v3 v29 v30 v31 h
theorem n8_eq0 {R : Type} (k : Nat) (G : GX → GV → GV → GV → GV → GV → Heap → Option R) (σ : GS) (h : Heap) : KC k 57 c17 σ h (fun x σ h => kx x (n9 k G (σ 1) (σ 2) (σ 3) (σ 29) (σ 30) (σ 31) h) (G x (σ 1) (σ 2) (σ 3) (σ 29) (σ 30) h)) = n8 k G (σ 1) (σ 2) (σ 3) (σ 29) (σ 30) h := by kernel_rfl
theorem n8_eq {R : Type} (k : Nat) (G : GX → GV → GV → GV → GV → GV → Heap → Option R) (σ : GS) (h : Heap) : KC k 57 c8 σ h (fun x σ h => G x (σ 1) (σ 2) (σ 3) (σ 29) (σ 30) h) = n8 k G (σ 1) (σ 2) (σ 3) (σ 29) (σ 30) h := (kseq (b := c9) rfl (fun σ h => n9_eq k G σ h)).trans (n8_eq0 k G σ h)
def l7 {R : Type} (k : Nat) (G : GX → GV → GV → Heap → Option R) : Nat → GV → GV → GV → GV → GV → Heap → Option R
  | 0, _, _, _, _, _, _ => none
  | r + 1, v1, v2, v3, v29, v30, h => n8 k (fun x v1 v2 v3 v29 v30 h => kx x (l7 k G r v1 v2 v3 v29 v30 h) (G x v2 v3 h)) v1 v2 v3 v29 v30 h
theorem l7_eq {R : Type} (k : Nat) (G : GX → GV → GV → Heap → Option R) : ∀ (r : Nat) (σ : GS) (h : Heap), kloop (fun σ h K => KC k 57 c8 σ h K) r σ h (fun x σ h => G x (σ 2) (σ 3) h) = l7 k G r (σ 1) (σ 2) (σ 3) (σ 29) (σ 30) h
  | 0, _, _ => rfl
  | r + 1, σ, h => (kloop_eq (fun σ h => l7_eq k G r σ h)).trans (n8_eq k (fun x v1 v2 v3 v29 v30 h => kx x (l7 k G r v1 v2 v3 v29 v30 h) (G x v2 v3 h)) σ h)
@[simp] def n7 {R : Type} (k : Nat) (G : GX → GV → GV → Heap → Option R) (v1 : GV) (v2 : GV) (v3 : GV) (v29 : GV) (v30 : GV) (h : Heap) : Option R := l7 k G k v1 v2 v3 v29 v30 h
theorem n7_eq {R : Type} (k : Nat) (G : GX → GV → GV → Heap → Option R) (σ : GS) (h : Heap) : KC k 57 c7 σ h (fun x σ h => G x (σ 2) (σ 3) h) = n7 k G (σ 1) (σ 2) (σ 3) (σ 29) (σ 30) h := (kloopc_eq (a := c8) rfl).trans (l7_eq k G k σ h)
@[simp] def n6 {R : Type} (k : Nat) (G : GX → GV → GV → Heap → Option R) (v1 : GV) (v2 : GV) (v3 : GV) (v29 : GV) (v30 : GV) (h : Heap) : Option R := n7 k (fun x v2 v3 h => kb 2 x fun x => G x v2 v3 h) v1 v2 v3 v29 v30 h
theorem n6_eq {R : Type} (k : Nat) (G : GX → GV → GV → Heap → Option R) (σ : GS) (h : Heap) : KC k 57 c6 σ h (fun x σ h => G x (σ 2) (σ 3) h) = n6 k G (σ 1) (σ 2) (σ 3) (σ 29) (σ 30) h := (kblock_eq (a := c7) rfl).trans (n7_eq k (fun x v2 v3 h => kb 2 x fun x => G x v2 v3 h) σ h)
noncomputable def c18 : Code := cL c5
@[simp] def n5 {R : Type} (k : Nat) (G : GX → GV → GV → Heap → Option R) (v1 : GV) (v2 : GV) (v3 : GV) (h : Heap) : Option R := (kfa 1 v1).bind fun v27 => (kload1 h v27).bind fun v28 => (klen v28).bind fun v29 => n6 k G v1 v2 v3 v29 (.int .i64 0) h
theorem n5_eq0 {R : Type} (k : Nat) (G : GX → GV → GV → Heap → Option R) (σ : GS) (h : Heap) : KC k 57 c18 σ h (fun x σ h => kx x (n6 k G (σ 1) (σ 2) (σ 3) (σ 29) (σ 30) h) (G x (σ 2) (σ 3) h)) = n5 k G (σ 1) (σ 2) (σ 3) h := by kernel_rfl
theorem n5_eq {R : Type} (k : Nat) (G : GX → GV → GV → Heap → Option R) (σ : GS) (h : Heap) : KC k 57 c5 σ h (fun x σ h => G x (σ 2) (σ 3) h) = n5 k G (σ 1) (σ 2) (σ 3) h := (kseq (b := c6) rfl (fun σ h => n6_eq k G σ h)).trans (n5_eq0 k G σ h)
@[simp] def n3 {R : Type} (k : Nat) (G : GX → GV → Heap → Option R) (v1 : GV) (v2 : GV) (v3 : GV) (h : Heap) : Option R := n5 k (fun x v2 v3 h => kx x (n4 k G v2 v3 h) (G x v2 h)) v1 v2 v3 h
theorem n3_eq {R : Type} (k : Nat) (G : GX → GV → Heap → Option R) (σ : GS) (h : Heap) : KC k 57 c3 σ h (fun x σ h => G x (σ 2) h) = n3 k G (σ 1) (σ 2) (σ 3) h := (kseq (b := c4) rfl (fun σ h => n4_eq k G σ h)).trans (n5_eq k (fun x v2 v3 h => kx x (n4 k G v2 v3 h) (G x v2 h)) σ h)
noncomputable def c19 : Code := cL c2
noncomputable def c20 : Code := cR c19
noncomputable def c21 : Code := cL c20
noncomputable def c22 : Code := cL c21
noncomputable def c23 : Code := cR c22
noncomputable def c24 : Code := cR c23
noncomputable def c25 : Code := cR c24
@[simp] def n25 {R : Type} (k : Nat) (G : GX → GV → GV → GV → GV → GV → GV → Heap → Option R) (v1 : GV) (v2 : GV) (v3 : GV) (v9 : GV) (v10 : GV) (v11 : GV) (h : Heap) : Option R := (kbin .add v11 (.int .i64 1)).bind fun v26 => G .nrm v1 v2 v3 v9 v10 v26 h
theorem n25_eq {R : Type} (k : Nat) (G : GX → GV → GV → GV → GV → GV → GV → Heap → Option R) (σ : GS) (h : Heap) : KC k 57 c25 σ h (fun x σ h => G x (σ 1) (σ 2) (σ 3) (σ 9) (σ 10) (σ 11) h) = n25 k G (σ 1) (σ 2) (σ 3) (σ 9) (σ 10) (σ 11) h := by kernel_rfl
noncomputable def c26 : Code := cL c24
noncomputable def c27 : Code := cL c26
noncomputable def c28 : Code := cR c27
noncomputable def o28 : Array Oper := cO c28
@[simp] def g28_0 {R : Type} (k : Nat) (G : GX → GV → GV → GV → GV → GV → GV → Heap → Option R) (v1 : GV) (v2 : GV) (v3 : GV) (v5 : GV) (v9 : GV) (v10 : GV) (v11 : GV) (rs : List Rec) (h : Heap) : Option R := (kfa 0 v3).bind fun v15 => (kload1 h v15).bind fun v16 => (kfa 0 v5).bind fun v17 => (kload1 h v17).bind fun v18 => kold h fun h0 => (kF true HH fn.slices_Clone_string [v18] h).bind fun r => kr r fun v19 h => krs (rs ++ [⟨4, h0.length, h.length, ⟨[v18].flatMap (kborr h0), []⟩⟩]) fun rs => (kfa 1 v5).bind fun v20 => kold h fun h0 => (kload1 h v20).bind fun v21 => krs (rs ++ [⟨6, h0.length, h.length, ⟨kblk v20, []⟩⟩]) fun rs => (gfill (fun i => [(0, 1), (1, 1)][i]?) [.nils, (.int .i64 0)] [(0, v19), (1, v21)]).bind fun c => kagg c h fun v22 h => (gfill (fun i => some (i * 2, 2)) (zeros [.nils, (.int .i64 0)] 1) [(0, v22)]).bind fun c => kbs 1 2 c h fun v23 h => (kapp [.nils, (.int .i64 0)] 2 32 v16 v23 h).bind fun r => kr r fun v24 h => (kfa 0 v3).bind fun v25 => (kstore 1 h v25 v24).bind fun h => bif chk [(4, 6)] rs then G .nrm v1 v2 v3 v9 v10 v11 h else none
theorem g28_0_eq {R : Type} (k : Nat) (G : GX → GV → GV → GV → GV → GV → GV → Heap → Option R) (rs : List Rec) (σ : GS) (h : Heap) : kgroupsD PP cfg NN HH 57 o28 [(4, 6)] [(none, [0, 1, 2, 3, 4, 5, 6, 7, 8, 9, 10, 11])] rs σ h (fun rs σ h => bif chk [(4, 6)] rs then G .nrm (σ 1) (σ 2) (σ 3) (σ 9) (σ 10) (σ 11) h else none) = g28_0 k G (σ 1) (σ 2) (σ 3) (σ 5) (σ 9) (σ 10) (σ 11) rs h := by kernel_rfl
@[simp] def n28 {R : Type} (k : Nat) (G : GX → GV → GV → GV → GV → GV → GV → Heap → Option R) (v1 : GV) (v2 : GV) (v3 : GV) (v5 : GV) (v9 : GV) (v10 : GV) (v11 : GV) (h : Heap) : Option R := g28_0 k G v1 v2 v3 v5 v9 v10 v11 [] h
theorem n28_eq {R : Type} (k : Nat) (G : GX → GV → GV → GV → GV → GV → GV → Heap → Option R) (σ : GS) (h : Heap) : KC k 57 c28 σ h (fun x σ h => G x (σ 1) (σ 2) (σ 3) (σ 9) (σ 10) (σ 11) h) = n28 k G (σ 1) (σ 2) (σ 3) (σ 5) (σ 9) (σ 10) (σ 11) h := (kregionD_eq (id := 5) (draw := true) (ops := o28) (gs := [(none, [0, 1, 2, 3, 4, 5, 6, 7, 8, 9, 10, 11])]) (bad := [(4, 6)]) (by kernel_rfl) (by kernel_rfl) (by kernel_rfl) (by kernel_rfl) (by kernel_rfl)).trans (g28_0_eq k G [] σ h)
noncomputable def c29 : Code := cL c27
@[simp] def n27 {R : Type} (k : Nat) (G : GX → GV → GV → GV → GV → GV → GV → Heap → Option R) (v1 : GV) (v2 : GV) (v3 : GV) (v9 : GV) (v10 : GV) (v11 : GV) (h : Heap) : Option R := (kia 2 v9 v11).bind fun v13 => (kloadA 2 h v13).bind fun v14 => kalloc [.nils, (.int .i64 0)] h fun v5 h => (kstore 2 h v5 v14).bind fun h => n28 k G v1 v2 v3 v5 v9 v10 v11 h
theorem n27_eq0 {R : Type} (k : Nat) (G : GX → GV → GV → GV → GV → GV → GV → Heap → Option R) (σ : GS) (h : Heap) : KC k 57 c29 σ h (fun x σ h => kx x (n28 k G (σ 1) (σ 2) (σ 3) (σ 5) (σ 9) (σ 10) (σ 11) h) (G x (σ 1) (σ 2) (σ 3) (σ 9) (σ 10) (σ 11) h)) = n27 k G (σ 1) (σ 2) (σ 3) (σ 9) (σ 10) (σ 11) h := by kernel_rfl
theorem n27_eq {R : Type} (k : Nat) (G : GX → GV → GV → GV → GV → GV → GV → Heap → Option R) (σ : GS) (h : Heap) : KC k 57 c27 σ h (fun x σ h => G x (σ 1) (σ 2) (σ 3) (σ 9) (σ 10) (σ 11) h) = n27 k G (σ 1) (σ 2) (σ 3) (σ 9) (σ 10) (σ 11) h := (kseq (b := c28) rfl (fun σ h => n28_eq k G σ h)).trans (n27_eq0 k G σ h)
@[simp] def n26 {R : Type} (k : Nat) (G : GX → GV → GV → GV → GV → GV → GV → Heap → Option R) (v1 : GV) (v2 : GV) (v3 : GV) (v9 : GV) (v10 : GV) (v11 : GV) (h : Heap) : Option R := n27 k (fun x v1 v2 v3 v9 v10 v11 h => kb 1 x fun x => G x v1 v2 v3 v9 v10 v11 h) v1 v2 v3 v9 v10 v11 h
theorem n26_eq {R : Type} (k : Nat) (G : GX → GV → GV → GV → GV → GV → GV → Heap → Option R) (σ : GS) (h : Heap) : KC k 57 c26 σ h (fun x σ h => G x (σ 1) (σ 2) (σ 3) (σ 9) (σ 10) (σ 11) h) = n26 k G (σ 1) (σ 2) (σ 3) (σ 9) (σ 10) (σ 11) h := (kblock_eq (a := c27) rfl).trans (n27_eq k (fun x v1 v2 v3 v9 v10 v11 h => kb 1 x fun x => G x v1 v2 v3 v9 v10 v11 h) σ h)
@[simp] def n24 {R : Type} (k : Nat) (G : GX → GV → GV → GV → GV → GV → GV → Heap → Option R) (v1 : GV) (v2 : GV) (v3 : GV) (v9 : GV) (v10 : GV) (v11 : GV) (h : Heap) : Option R := n26 k (fun x v1 v2 v3 v9 v10 v11 h => kx x (n25 k G v1 v2 v3 v9 v10 v11 h) (G x v1 v2 v3 v9 v10 v11 h)) v1 v2 v3 v9 v10 v11 h
theorem n24_eq {R : Type} (k : Nat) (G : GX → GV → GV → GV → GV → GV → GV → Heap → Option R) (σ : GS) (h : Heap) : KC k 57 c24 σ h (fun x σ h => G x (σ 1) (σ 2) (σ 3) (σ 9) (σ 10) (σ 11) h) = n24 k G (σ 1) (σ 2) (σ 3) (σ 9) (σ 10) (σ 11) h := (kseq (b := c25) rfl (fun σ h => n25_eq k G σ h)).trans (n26_eq k (fun x v1 v2 v3 v9 v10 v11 h => kx x (n25 k G v1 v2 v3 v9 v10 v11 h) (G x v1 v2 v3 v9 v10 v11 h)) σ h)
noncomputable def c30 : Code := cL c23
@[simp] def n23 {R : Type} (k : Nat) (G : GX → GV → GV → GV → GV → GV → GV → Heap → Option R) (v1 : GV) (v2 : GV) (v3 : GV) (v9 : GV) (v10 : GV) (v11 : GV) (v12 : GV) (h : Heap) : Option R := kcond v12 (n24 k G v1 v2 v3 v9 v10 v11 h) (G (.ext 0) v1 v2 v3 v9 v10 v11 h)
theorem n23_eq0 {R : Type} (k : Nat) (G : GX → GV → GV → GV → GV → GV → GV → Heap → Option R) (σ : GS) (h : Heap) : KC k 57 c30 σ h (fun x σ h => kx x (n24 k G (σ 1) (σ 2) (σ 3) (σ 9) (σ 10) (σ 11) h) (G x (σ 1) (σ 2) (σ 3) (σ 9) (σ 10) (σ 11) h)) = n23 k G (σ 1) (σ 2) (σ 3) (σ 9) (σ 10) (σ 11) (σ 12) h := by kernel_rfl
theorem n23_eq {R : Type} (k : Nat) (G : GX → GV → GV → GV → GV → GV → GV → Heap → Option R) (σ : GS) (h : Heap) : KC k 57 c23 σ h (fun x σ h => G x (σ 1) (σ 2) (σ 3) (σ 9) (σ 10) (σ 11) h) = n23 k G (σ 1) (σ 2) (σ 3) (σ 9) (σ 10) (σ 11) (σ 12) h := (kseq (b := c24) rfl (fun σ h => n24_eq k G σ h)).trans (n23_eq0 k G σ h)
noncomputable def c31 : Code := cL c22
@[simp] def n22 {R : Type} (k : Nat) (G : GX → GV → GV → GV → GV → GV → GV → Heap → Option R) (v1 : GV) (v2 : GV) (v3 : GV) (v9 : GV) (v10 : GV) (v11 : GV) (h : Heap) : Option R := (kbin .lss v11 v10).bind fun v12 => n23 k G v1 v2 v3 v9 v10 v11 v12 h
theorem n22_eq0 {R : Type} (k : Nat) (G : GX → GV → GV → GV → GV → GV → GV → Heap → Option R) (σ : GS) (h : Heap) : KC k 57 c31 σ h (fun x σ h => kx x (n23 k G (σ 1) (σ 2) (σ 3) (σ 9) (σ 10) (σ 11) (σ 12) h) (G x (σ 1) (σ 2) (σ 3) (σ 9) (σ 10) (σ 11) h)) = n22 k G (σ 1) (σ 2) (σ 3) (σ 9) (σ 10) (σ 11) h := by kernel_rfl
theorem n22_eq {R : Type} (k : Nat) (G : GX → GV → GV → GV → GV → GV → GV → Heap → Option R) (σ : GS) (h : Heap) : KC k 57 c22 σ h (fun x σ h => G x (σ 1) (σ 2) (σ 3) (σ 9) (σ 10) (σ 11) h) = n22 k G (σ 1) (σ 2) (σ 3) (σ 9) (σ 10) (σ 11) h := (kseq (b := c23) rfl (fun σ h => n23_eq k G σ h)).trans (n22_eq0 k G σ h)
def l21 {R : Type} (k : Nat) (G : GX → GV → GV → GV → Heap → Option R) : Nat → GV → GV → GV → GV → GV → GV → Heap → Option R
  | 0, _, _, _, _, _, _, _ => none
  | r + 1, v1, v2, v3, v9, v10, v11, h => n22 k (fun x v1 v2 v3 v9 v10 v11 h => kx x (l21 k G r v1 v2 v3 v9 v10 v11 h) (G x v1 v2 v3 h)) v1 v2 v3 v9 v10 v11 h
theorem l21_eq {R : Type} (k : Nat) (G : GX → GV → GV → GV → Heap → Option R) : ∀ (r : Nat) (σ : GS) (h : Heap), kloop (fun σ h K => KC k 57 c22 σ h K) r σ h (fun x σ h => G x (σ 1) (σ 2) (σ 3) h) = l21 k G r (σ 1) (σ 2) (σ 3) (σ 9) (σ 10) (σ 11) h
  | 0, _, _ => rfl
  | r + 1, σ, h => (kloop_eq (fun σ h => l21_eq k G r σ h)).trans (n22_eq k (fun x v1 v2 v3 v9 v10 v11 h => kx x (l21 k G r v1 v2 v3 v9 v10 v11 h) (G x v1 v2 v3 h)) σ h)
@[simp] def n21 {R : Type} (k : Nat) (G : GX → GV → GV → GV → Heap → Option R) (v1 : GV) (v2 : GV) (v3 : GV) (v9 : GV) (v10 : GV) (v11 : GV) (h : Heap) : Option R := l21 k G k v1 v2 v3 v9 v10 v11 h
theorem n21_eq {R : Type} (k : Nat) (G : GX → GV → GV → GV → Heap → Option R) (σ : GS) (h : Heap) : KC k 57 c21 σ h (fun x σ h => G x (σ 1) (σ 2) (σ 3) h) = n21 k G (σ 1) (σ 2) (σ 3) (σ 9) (σ 10) (σ 11) h := (kloopc_eq (a := c22) rfl).trans (l21_eq k G k σ h)
@[simp] def n20 {R : Type} (k : Nat) (G : GX → GV → GV → GV → Heap → Option R) (v1 : GV) (v2 : GV) (v3 : GV) (v9 : GV) (v10 : GV) (v11 : GV) (h : Heap) : Option R := n21 k (fun x v1 v2 v3 h => kb 0 x fun x => G x v1 v2 v3 h) v1 v2 v3 v9 v10 v11 h
theorem n20_eq {R : Type} (k : Nat) (G : GX → GV → GV → GV → Heap → Option R) (σ : GS) (h : Heap) : KC k 57 c20 σ h (fun x σ h => G x (σ 1) (σ 2) (σ 3) h) = n20 k G (σ 1) (σ 2) (σ 3) (σ 9) (σ 10) (σ 11) h := (kblock_eq (a := c21) rfl).trans (n21_eq k (fun x v1 v2 v3 h => kb 0 x fun x => G x v1 v2 v3 h) σ h)
noncomputable def c32 : Code := cL c19
@[simp] def n19 {R : Type} (k : Nat) (G : GX → GV → GV → GV → Heap → Option R) (v1 : GV) (v2 : GV) (v3 : GV) (h : Heap) : Option R := (kfa 0 v1).bind fun v8 => (kload1 h v8).bind fun v9 => (klen v9).bind fun v10 => n20 k G v1 v2 v3 v9 v10 (.int .i64 0) h
theorem n19_eq0 {R : Type} (k : Nat) (G : GX → GV → GV → GV → Heap → Option R) (σ : GS) (h : Heap) : KC k 57 c32 σ h (fun x σ h => kx x (n20 k G (σ 1) (σ 2) (σ 3) (σ 9) (σ 10) (σ 11) h) (G x (σ 1) (σ 2) (σ 3) h)) = n19 k G (σ 1) (σ 2) (σ 3) h := by kernel_rfl
theorem n19_eq {R : Type} (k : Nat) (G : GX → GV → GV → GV → Heap → Option R) (σ : GS) (h : Heap) : KC k 57 c19 σ h (fun x σ h => G x (σ 1) (σ 2) (σ 3) h) = n19 k G (σ 1) (σ 2) (σ 3) h := (kseq (b := c20) rfl (fun σ h => n20_eq k G σ h)).trans (n19_eq0 k G σ h)
@[simp] def n2 {R : Type} (k : Nat) (G : GX → GV → Heap → Option R) (v1 : GV) (v2 : GV) (v3 : GV) (h : Heap) : Option R := n19 k (fun x v1 v2 v3 h => kx x (n3 k G v1 v2 v3 h) (G x v2 h)) v1 v2 v3 h
theorem n2_eq {R : Type} (k : Nat) (G : GX → GV → Heap → Option R) (σ : GS) (h : Heap) : KC k 57 c2 σ h (fun x σ h => G x (σ 2) h) = n2 k G (σ 1) (σ 2) (σ 3) h := (kseq (b := c3) rfl (fun σ h => n3_eq k G σ h)).trans (n19_eq k (fun x v1 v2 v3 h => kx x (n3 k G v1 v2 v3 h) (G x v2 h)) σ h)
noncomputable def c33 : Code := cL c1
@[simp] def n1 {R : Type} (k : Nat) (G : GX → GV → Heap → Option R) (v1 : GV) (v2 : GV) (h : Heap) : Option R := (gfill (fun i => [(0, 1), (1, 1), (2, 1)][i]?) [.nils, .nils, .nils] []).bind fun c => kagg c h fun v7 h => kalloc [.nils, .nils, .nils] h fun v3 h => (kstore 3 h v3 v7).bind fun h => n2 k G v1 v2 v3 h
theorem n1_eq0 {R : Type} (k : Nat) (G : GX → GV → Heap → Option R) (σ : GS) (h : Heap) : KC k 57 c33 σ h (fun x σ h => kx x (n2 k G (σ 1) (σ 2) (σ 3) h) (G x (σ 2) h)) = n1 k G (σ 1) (σ 2) h := by kernel_rfl
theorem n1_eq {R : Type} (k : Nat) (G : GX → GV → Heap → Option R) (σ : GS) (h : Heap) : KC k 57 c1 σ h (fun x σ h => G x (σ 2) h) = n1 k G (σ 1) (σ 2) h := (kseq (b := c2) rfl (fun σ h => n2_eq k G σ h)).trans (n1_eq0 k G σ h)
noncomputable def c34 : Code := cL c0
@[simp] def n0 {R : Type} (k : Nat) (G : GX → GV → Heap → Option R) (v0 : GV) (h : Heap) : Option R := kbox v0 h fun v1 h => kalloc [.nils, .nils, .nils] h fun v2 h => n1 k G v1 v2 h
theorem n0_eq0 {R : Type} (k : Nat) (G : GX → GV → Heap → Option R) (σ : GS) (h : Heap) : KC k 57 c34 σ h (fun x σ h => kx x (n1 k G (σ 1) (σ 2) h) (G x (σ 2) h)) = n0 k G (σ 0) h := by kernel_rfl
theorem n0_eq {R : Type} (k : Nat) (G : GX → GV → Heap → Option R) (σ : GS) (h : Heap) : KC k 57 c0 σ h (fun x σ h => G x (σ 2) h) = n0 k G (σ 0) h := (kseq (b := c1) rfl (fun σ h => n1_eq k G σ h)).trans (n0_eq0 k G σ h)
def run {R : Type} (k : Nat) (a0 : GV) (h : Heap) (fin : GV → Heap → Option R) : Option R := n0 k (fun x v2 h => kend x ((kloadA 3 h v2).bind fun w2 => fin w2 h)) a0 h
theorem run_eq {R : Type} (k : Nat) (a0 : GV) (h : Heap) (fin : GV → Heap → Option R) : kfun PP cfg NN HH k fn.impl_Chain_copied [a0] h fin = run k a0 h fin := (kfun_eq (nt := 57) (c := c0) (show PP.funcs[fn.impl_Chain_copied]? = some Try.f121 by kernel_rfl) (by kernel_rfl) (by kernel_rfl) (fun x σ h => by cases x <;> kernel_rfl)).trans (n0_eq k (fun x v2 h => kend x ((kloadA 3 h v2).bind fun w2 => fin w2 h)) _ h)
theorem gives {k : Nat} {a0 : GV} {b : Nat} {q : GV × List (List GV)} (e : run k a0 [] (finO b) = some q) : OO fn.impl_Chain_copied [a0] b = some q := oω_of ((run_eq k a0 [] (finO b)).trans e)
end S.impl_Chain_copied
/-! slices_IndexFunc_impl_Server -/
namespace S.slices_IndexFunc_impl_Server
noncomputable def c0 : Code := bodyOf Try.f128
noncomputable def c1 : Code := cR c0
noncomputable def c2 : Code := cR c1
@[simp] def n2 {R : Type} (k : Nat) (G : GX → GV → Heap → Option R) (h : Heap) : Option R := G .ret (.int .i64 (-1)) h
theorem n2_eq {R : Type} (k : Nat) (G : GX → GV → Heap → Option R) (σ : GS) (h : Heap) : KC k 19 c2 σ h (fun x σ h => G x (σ 4) h) = n2 k G h := by kernel_rfl
noncomputable def c3 : Code := cL c1
noncomputable def c4 : Code := cR c3
noncomputable def c5 : Code := cL c4
noncomputable def c6 : Code := cL c5
noncomputable def c7 : Code := cR c6
noncomputable def c8 : Code := cR c7
noncomputable def c9 : Code := cR c8
@[simp] def n9 {R : Type} (k : Nat) (G : GX → GV → GV → GV → GV → GV → Heap → Option R) (v0 : GV) (v1 : GV) (v4 : GV) (v7 : GV) (v8 : GV) (h : Heap) : Option R := (kbin .add v8 (.int .i64 1)).bind fun v18 => G .nrm v0 v1 v4 v7 v18 h
theorem n9_eq {R : Type} (k : Nat) (G : GX → GV → GV → GV → GV → GV → Heap → Option R) (σ : GS) (h : Heap) : KC k 19 c9 σ h (fun x σ h => G x (σ 0) (σ 1) (σ 4) (σ 7) (σ 8) h) = n9 k G (σ 0) (σ 1) (σ 4) (σ 7) (σ 8) h := by kernel_rfl
noncomputable def c10 : Code := cL c8
noncomputable def c11 : Code := cL c10
@[simp] def n11 {R : Type} (k : Nat) (G : GX → GV → GV → GV → GV → GV → Heap → Option R) (v0 : GV) (v1 : GV) (v4 : GV) (v7 : GV) (v8 : GV) (h : Heap) : Option R := (kia 2 v0 v8).bind fun v14 => (kloadA 2 h v14).bind fun v15 => kval v1 [v15] h fun v16 h => kcond v16 (G .ret v0 v1 v8 v7 v8 h) (G .nrm v0 v1 v4 v7 v8 h)
theorem n11_eq {R : Type} (k : Nat) (G : GX → GV → GV → GV → GV → GV → Heap → Option R) (σ : GS) (h : Heap) : KC k 19 c11 σ h (fun x σ h => G x (σ 0) (σ 1) (σ 4) (σ 7) (σ 8) h) = n11 k G (σ 0) (σ 1) (σ 4) (σ 7) (σ 8) h := by kernel_rfl
@[simp] def n10 {R : Type} (k : Nat) (G : GX → GV → GV → GV → GV → GV → Heap → Option R) (v0 : GV) (v1 : GV) (v4 : GV) (v7 : GV) (v8 : GV) (h : Heap) : Option R := n11 k (fun x v0 v1 v4 v7 v8 h => kb 1 x fun x => G x v0 v1 v4 v7 v8 h) v0 v1 v4 v7 v8 h
theorem n10_eq {R : Type} (k : Nat) (G : GX → GV → GV → GV → GV → GV → Heap → Option R) (σ : GS) (h : Heap) : KC k 19 c10 σ h (fun x σ h => G x (σ 0) (σ 1) (σ 4) (σ 7) (σ 8) h) = n10 k G (σ 0) (σ 1) (σ 4) (σ 7) (σ 8) h := (kblock_eq (a := c11) rfl).trans (n11_eq k (fun x v0 v1 v4 v7 v8 h => kb 1 x fun x => G x v0 v1 v4 v7 v8 h) σ h)
@[simp] def n8 {R : Type} (k : Nat) (G : GX → GV → GV → GV → GV → GV → Heap → Option R) (v0 : GV) (v1 : GV) (v4 : GV) (v7 : GV) (v8 : GV) (h : Heap) : Option R := n10 k (fun x v0 v1 v4 v7 v8 h => kx x (n9 k G v0 v1 v4 v7 v8 h) (G x v0 v1 v4 v7 v8 h)) v0 v1 v4 v7 v8 h
theorem n8_eq {R : Type} (k : Nat) (G : GX → GV → GV → GV → GV → GV → Heap → Option R) (σ : GS) (h : Heap) : KC k 19 c8 σ h (fun x σ h => G x (σ 0) (σ 1) (σ 4) (σ 7) (σ 8) h) = n8 k G (σ 0) (σ 1) (σ 4) (σ 7) (σ 8) h := (kseq (b := c9) rfl (fun σ h => n9_eq k G σ h)).trans (n10_eq k (fun x v0 v1 v4 v7 v8 h => kx x (n9 k G v0 v1 v4 v7 v8 h) (G x v0 v1 v4 v7 v8 h)) σ h)
noncomputable def c12 : Code := cL c7
@[simp] def n7 {R : Type} (k : Nat) (G : GX → GV → GV → GV → GV → GV → Heap → Option R) (v0 : GV) (v1 : GV) (v4 : GV) (v7 : GV) (v8 : GV) (v9 : GV) (h : Heap) : Option R := kcond v9 (n8 k G v0 v1 v4 v7 v8 h) (G (.ext 0) v0 v1 v4 v7 v8 h)
theorem n7_eq0 {R : Type} (k : Nat) (G : GX → GV → GV → GV → GV → GV → Heap → Option R) (σ : GS) (h : Heap) : KC k 19 c12 σ h (fun x σ h => kx x (n8 k G (σ 0) (σ 1) (σ 4) (σ 7) (σ 8) h) (G x (σ 0) (σ 1) (σ 4) (σ 7) (σ 8) h)) = n7 k G (σ 0) (σ 1) (σ 4) (σ 7) (σ 8) (σ 9) h := by kernel_rfl
theorem n7_eq {R : Type} (k : Nat) (G : GX → GV → GV → GV → GV → GV → Heap → Option R) (σ : GS) (h : Heap) : KC k 19 c7 σ h (fun x σ h => G x (σ 0) (σ 1) (σ 4) (σ 7) (σ 8) h) = n7 k G (σ 0) (σ 1) (σ 4) (σ 7) (σ 8) (σ 9) h := (kseq (b := c8) rfl (fun σ h => n8_eq k G σ h)).trans (n7_eq0 k G σ h)
noncomputable def c13 : Code := cL c6
@[simp] def n6 {R : Type} (k : Nat) (G : GX → GV → GV → GV → GV → GV → Heap → Option R) (v0 : GV) (v1 : GV) (v4 : GV) (v7 : GV) (v8 : GV) (h : Heap) : Option R := (kbin .lss v8 v7).bind fun v9 => n7 k G v0 v1 v4 v7 v8 v9 h
theorem n6_eq0 {R : Type} (k : Nat) (G : GX → GV → GV → GV → GV → GV → Heap → Option R) (σ : GS) (h : Heap) : KC k 19 c13 σ h (fun x σ h => kx x (n7 k G (σ 0) (σ 1) (σ 4) (σ 7) (σ 8) (σ 9) h) (G x (σ 0) (σ 1) (σ 4) (σ 7) (σ 8) h)) = n6 k G (σ 0) (σ 1) (σ 4) (σ 7) (σ 8) h := by kernel_rfl
theorem n6_eq {R : Type} (k : Nat) (G : GX → GV → GV → GV → GV → GV → Heap → Option R) (σ : GS) (h : Heap) : KC k 19 c6 σ h (fun x σ h => G x (σ 0) (σ 1) (σ 4) (σ 7) (σ 8) h) = n6 k G (σ 0) (σ 1) (σ 4) (σ 7) (σ 8) h := (kseq (b := c7) rfl (fun σ h => n7_eq k G σ h)).trans (n6_eq0 k G σ h)
def l5 {R : Type} (k : Nat) (G : GX → GV → Heap → Option R) : Nat → GV → GV → GV → GV → GV → Heap → Option R
  | 0, _, _, _, _, _, _ => none
  | r + 1, v0, v1, v4, v7, v8, h => n6 k (fun x v0 v1 v4 v7 v8 h => kx x (l5 k G r v0 v1 v4 v7 v8 h) (G x v4 h)) v0 v1 v4 v7 v8 h
theorem l5_eq {R : Type} (k : Nat) (G : GX → GV → Heap → Option R) : ∀ (r : Nat) (σ : GS) (h : Heap), kloop (fun σ h K => KC k 19 c6 σ h K) r σ h (fun x σ h => G x (σ 4) h) = l5 k G r (σ 0) (σ 1) (σ 4) (σ 7) (σ 8) h
  | 0, _, _ => rfl
  | r + 1, σ, h => (kloop_eq (fun σ h => l5_eq k G r σ h)).trans (n6_eq k (fun x v0 v1 v4 v7 v8 h => kx x (l5 k G r v0 v1 v4 v7 v8 h) (G x v4 h)) σ h)
@[simp] def n5 {R : Type} (k : Nat) (G : GX → GV → Heap → Option R) (v0 : GV) (v1 : GV) (v4 : GV) (v7 : GV) (v8 : GV) (h : Heap) : Option R := l5 k G k v0 v1 v4 v7 v8 h
theorem n5_eq {R : Type} (k : Nat) (G : GX → GV → Heap → Option R) (σ : GS) (h : Heap) : KC k 19 c5 σ h (fun x σ h => G x (σ 4) h) = n5 k G (σ 0) (σ 1) (σ 4) (σ 7) (σ 8) h := (kloopc_eq (a := c6) rfl).trans (l5_eq k G k σ h)
@[simp] def n4 {R : Type} (k : Nat) (G : GX → GV → Heap → Option R) (v0 : GV) (v1 : GV) (v4 : GV) (v7 : GV) (v8 : GV) (h : Heap) : Option R := n5 k (fun x v4 h => kb 0 x fun x => G x v4 h) v0 v1 v4 v7 v8 h
theorem n4_eq {R : Type} (k : Nat) (G : GX → GV → Heap → Option R) (σ : GS) (h : Heap) : KC k 19 c4 σ h (fun x σ h => G x (σ 4) h) = n4 k G (σ 0) (σ 1) (σ 4) (σ 7) (σ 8) h := (kblock_eq (a := c5) rfl).trans (n5_eq k (fun x v4 h => kb 0 x fun x => G x v4 h) σ h)
noncomputable def c14 : Code := cL c3
@[simp] def n3 {R : Type} (k : Nat) (G : GX → GV → Heap → Option R) (v0 : GV) (v1 : GV) (v4 : GV) (h : Heap) : Option R := (klen v0).bind fun v7 => n4 k G v0 v1 v4 v7 (.int .i64 0) h
theorem n3_eq0 {R : Type} (k : Nat) (G : GX → GV → Heap → Option R) (σ : GS) (h : Heap) : KC k 19 c14 σ h (fun x σ h => kx x (n4 k G (σ 0) (σ 1) (σ 4) (σ 7) (σ 8) h) (G x (σ 4) h)) = n3 k G (σ 0) (σ 1) (σ 4) h := by kernel_rfl
theorem n3_eq {R : Type} (k : Nat) (G : GX → GV → Heap → Option R) (σ : GS) (h : Heap) : KC k 19 c3 σ h (fun x σ h => G x (σ 4) h) = n3 k G (σ 0) (σ 1) (σ 4) h := (kseq (b := c4) rfl (fun σ h => n4_eq k G σ h)).trans (n3_eq0 k G σ h)
@[simp] def n1 {R : Type} (k : Nat) (G : GX → GV → Heap → Option R) (v0 : GV) (v1 : GV) (v4 : GV) (h : Heap) : Option R := n3 k (fun x v4 h => kx x (n2 k G h) (G x v4 h)) v0 v1 v4 h
theorem n1_eq {R : Type} (k : Nat) (G : GX → GV → Heap → Option R) (σ : GS) (h : Heap) : KC k 19 c1 σ h (fun x σ h => G x (σ 4) h) = n1 k G (σ 0) (σ 1) (σ 4) h := (kseq (b := c2) rfl (fun σ h => n2_eq k G σ h)).trans (n3_eq k (fun x v4 h => kx x (n2 k G h) (G x v4 h)) σ h)
noncomputable def c15 : Code := cL c0
@[simp] def n0 {R : Type} (k : Nat) (G : GX → GV → Heap → Option R) (v0 : GV) (v1 : GV) (h : Heap) : Option R := n1 k G v0 v1 (.int .i64 0) h
theorem n0_eq0 {R : Type} (k : Nat) (G : GX → GV → Heap → Option R) (σ : GS) (h : Heap) : KC k 19 c15 σ h (fun x σ h => kx x (n1 k G (σ 0) (σ 1) (σ 4) h) (G x (σ 4) h)) = n0 k G (σ 0) (σ 1) h := by kernel_rfl
theorem n0_eq {R : Type} (k : Nat) (G : GX → GV → Heap → Option R) (σ : GS) (h : Heap) : KC k 19 c0 σ h (fun x σ h => G x (σ 4) h) = n0 k G (σ 0) (σ 1) h := (kseq (b := c1) rfl (fun σ h => n1_eq k G σ h)).trans (n0_eq0 k G σ h)
def run {R : Type} (k : Nat) (a0 : GV) (a1 : GV) (h : Heap) (fin : GV → Heap → Option R) : Option R := n0 k (fun x v4 h => kend x (fin v4 h)) a0 a1 h
theorem run_eq {R : Type} (k : Nat) (a0 : GV) (a1 : GV) (h : Heap) (fin : GV → Heap → Option R) : kfun PP cfg NN HH k fn.slices_IndexFunc_impl_Server [a0, a1] h fin = run k a0 a1 h fin := (kfun_eq (nt := 19) (c := c0) (show PP.funcs[fn.slices_IndexFunc_impl_Server]? = some Try.f128 by kernel_rfl) (by kernel_rfl) (by kernel_rfl) (fun x σ h => by cases x <;> kernel_rfl)).trans (n0_eq k (fun x v4 h => kend x (fin v4 h)) _ h)
theorem gives {k : Nat} {a0 : GV} {a1 : GV} {v : GV} (e : run k a0 a1 [] finN = some v) : NN fn.slices_IndexFunc_impl_Server [a0, a1] = some v := nω_of (by kernel_rfl) ((run_eq k a0 a1 [] finN).trans e)
end S.slices_IndexFunc_impl_Server
/-! slices_ContainsFunc_string -/
namespace S.slices_ContainsFunc_string
noncomputable def c0 : Code := bodyOf Try.f129
@[simp] def n0 {R : Type} (k : Nat) (G : GX → GV → Heap → Option R) (v0 : GV) (v1 : GV) (h : Heap) : Option R := (kN NN fn.slices_IndexFunc_string [v0, v1] h).bind fun v7 => (kbin .geq v7 (.int .i64 0)).bind fun v8 => G .ret v8 h
theorem n0_eq {R : Type} (k : Nat) (G : GX → GV → Heap → Option R) (σ : GS) (h : Heap) : KC k 9 c0 σ h (fun x σ h => G x (σ 4) h) = n0 k G (σ 0) (σ 1) h := by kernel_rfl
def run {R : Type} (k : Nat) (a0 : GV) (a1 : GV) (h : Heap) (fin : GV → Heap → Option R) : Option R := n0 k (fun x v4 h => kend x (fin v4 h)) a0 a1 h
theorem run_eq {R : Type} (k : Nat) (a0 : GV) (a1 : GV) (h : Heap) (fin : GV → Heap → Option R) : kfun PP cfg NN HH k fn.slices_ContainsFunc_string [a0, a1] h fin = run k a0 a1 h fin := (kfun_eq (nt := 9) (c := c0) (show PP.funcs[fn.slices_ContainsFunc_string]? = some Try.f129 by kernel_rfl) (by kernel_rfl) (by kernel_rfl) (fun x σ h => by cases x <;> kernel_rfl)).trans (n0_eq k (fun x v4 h => kend x (fin v4 h)) _ h)
theorem gives {k : Nat} {a0 : GV} {a1 : GV} {v : GV} (e : run k a0 a1 [] finN = some v) : NN fn.slices_ContainsFunc_string [a0, a1] = some v := nω_of (by kernel_rfl) ((run_eq k a0 a1 [] finN).trans e)
end S.slices_ContainsFunc_string
/-! impl_isServer_1 -/
namespace S.impl_isServer_1
noncomputable def c0 : Code := bodyOf Try.f130
@[simp] def n0 {R : Type} (k : Nat) (G : GX → GV → Heap → Option R) (v0 : GV) (h : Heap) : Option R := (klenS v0).bind fun v4 => (kbin .gtr v4 (.int .i64 200)).bind fun v5 => G .ret v5 h
theorem n0_eq {R : Type} (k : Nat) (G : GX → GV → Heap → Option R) (σ : GS) (h : Heap) : KC k 6 c0 σ h (fun x σ h => G x (σ 2) h) = n0 k G (σ 0) h := by kernel_rfl
def run {R : Type} (k : Nat) (a0 : GV) (h : Heap) (fin : GV → Heap → Option R) : Option R := n0 k (fun x v2 h => kend x (fin v2 h)) a0 h
theorem run_eq {R : Type} (k : Nat) (a0 : GV) (h : Heap) (fin : GV → Heap → Option R) : kfun PP cfg NN HH k fn.impl_isServer_1 [a0] h fin = run k a0 h fin := (kfun_eq (nt := 6) (c := c0) (show PP.funcs[fn.impl_isServer_1]? = some Try.f130 by kernel_rfl) (by kernel_rfl) (by kernel_rfl) (fun x σ h => by cases x <;> kernel_rfl)).trans (n0_eq k (fun x v2 h => kend x (fin v2 h)) _ h)
theorem gives {k : Nat} {a0 : GV} {v : GV} (e : run k a0 [] finN = some v) : NN fn.impl_isServer_1 [a0] = some v := nω_of (by kernel_rfl) ((run_eq k a0 [] finN).trans e)
end S.impl_isServer_1
/-! slices_Grow_string -/
namespace S.slices_Grow_string
noncomputable def c0 : Code := bodyOf Try.f131
noncomputable def c1 : Code := cR c0
noncomputable def c2 : Code := cR c1
noncomputable def c3 : Code := cR c2
@[simp] def n3 {R : Type} (k : Nat) (G : GX → GV → Heap → Option R) (v0 : GV) (h : Heap) : Option R := G .ret v0 h
theorem n3_eq {R : Type} (k : Nat) (G : GX → GV → Heap → Option R) (σ : GS) (h : Heap) : KC k 27 c3 σ h (fun x σ h => G x (σ 4) h) = n3 k G (σ 0) h := by kernel_rfl
noncomputable def c4 : Code := cL c2
@[simp] def n2 {R : Type} (k : Nat) (G : GX → GV → Heap → Option R) (v0 : GV) (v1 : GV) (v4 : GV) (h : Heap) : Option R := (kcap v0).bind fun v10 => (klen v0).bind fun v12 => (kbin .sub v10 v12).bind fun v13 => (kbin .sub v1 v13).bind fun v14 => (kbin .gtr v14 (.int .i64 0)).bind fun v16 => kcond v16 ((kcap v0).bind fun v19 => (ksl 1 v0 none (some v19) none).bind fun v20 => (kapz [(.str { data := #[] })] 1 16 v20 v14 h).bind fun r => kr r fun v22 h => (klen v0).bind fun v24 => (ksl 1 v22 none (some v24) none).bind fun v25 => n3 k G v25 h) (n3 k G v0 h)
theorem n2_eq0 {R : Type} (k : Nat) (G : GX → GV → Heap → Option R) (σ : GS) (h : Heap) : KC k 27 c4 σ h (fun x σ h => kx x (n3 k G (σ 0) h) (G x (σ 4) h)) = n2 k G (σ 0) (σ 1) (σ 4) h := by kernel_rfl
theorem n2_eq {R : Type} (k : Nat) (G : GX → GV → Heap → Option R) (σ : GS) (h : Heap) : KC k 27 c2 σ h (fun x σ h => G x (σ 4) h) = n2 k G (σ 0) (σ 1) (σ 4) h := (kseq (b := c3) rfl (fun σ h => n3_eq k G σ h)).trans (n2_eq0 k G σ h)
noncomputable def c5 : Code := cL c1
@[simp] def n1 {R : Type} (k : Nat) (G : GX → GV → Heap → Option R) (v0 : GV) (v1 : GV) (v4 : GV) (h : Heap) : Option R := (kbin .lss v1 (.int .i64 0)).bind fun v6 => kcond v6 (none) (n2 k G v0 v1 v4 h)
theorem n1_eq0 {R : Type} (k : Nat) (G : GX → GV → Heap → Option R) (σ : GS) (h : Heap) : KC k 27 c5 σ h (fun x σ h => kx x (n2 k G (σ 0) (σ 1) (σ 4) h) (G x (σ 4) h)) = n1 k G (σ 0) (σ 1) (σ 4) h := by kernel_rfl
theorem n1_eq {R : Type} (k : Nat) (G : GX → GV → Heap → Option R) (σ : GS) (h : Heap) : KC k 27 c1 σ h (fun x σ h => G x (σ 4) h) = n1 k G (σ 0) (σ 1) (σ 4) h := (kseq (b := c2) rfl (fun σ h => n2_eq k G σ h)).trans (n1_eq0 k G σ h)
noncomputable def c6 : Code := cL c0
@[simp] def n0 {R : Type} (k : Nat) (G : GX → GV → Heap → Option R) (v0 : GV) (v1 : GV) (h : Heap) : Option R := n1 k G v0 v1 .nils h
theorem n0_eq0 {R : Type} (k : Nat) (G : GX → GV → Heap → Option R) (σ : GS) (h : Heap) : KC k 27 c6 σ h (fun x σ h => kx x (n1 k G (σ 0) (σ 1) (σ 4) h) (G x (σ 4) h)) = n0 k G (σ 0) (σ 1) h := by kernel_rfl
theorem n0_eq {R : Type} (k : Nat) (G : GX → GV → Heap → Option R) (σ : GS) (h : Heap) : KC k 27 c0 σ h (fun x σ h => G x (σ 4) h) = n0 k G (σ 0) (σ 1) h := (kseq (b := c1) rfl (fun σ h => n1_eq k G σ h)).trans (n0_eq0 k G σ h)
def run {R : Type} (k : Nat) (a0 : GV) (a1 : GV) (h : Heap) (fin : GV → Heap → Option R) : Option R := n0 k (fun x v4 h => kend x (fin v4 h)) a0 a1 h
theorem run_eq {R : Type} (k : Nat) (a0 : GV) (a1 : GV) (h : Heap) (fin : GV → Heap → Option R) : kfun PP cfg NN HH k fn.slices_Grow_string [a0, a1] h fin = run k a0 a1 h fin := (kfun_eq (nt := 27) (c := c0) (show PP.funcs[fn.slices_Grow_string]? = some Try.f131 by kernel_rfl) (by kernel_rfl) (by kernel_rfl) (fun x σ h => by cases x <;> kernel_rfl)).trans (n0_eq k (fun x v4 h => kend x (fin v4 h)) _ h)
theorem gives {k : Nat} {a0 : GV} {a1 : GV} {h : Heap} {r : GV × Heap} (e : run k a0 a1 h finH = some r) : HH fn.slices_Grow_string [a0, a1] h = some r := kω_of ((run_eq k a0 a1 h finH).trans e)
end S.slices_Grow_string
/-! slices_IsSorted_int64 -/
namespace S.slices_IsSorted_int64
noncomputable def c0 : Code := bodyOf Try.f132
noncomputable def c1 : Code := cR c0
noncomputable def c2 : Code := cR c1
@[simp] def n2 {R : Type} (k : Nat) (G : GX → GV → Heap → Option R) (h : Heap) : Option R := G .ret (.bool true) h
theorem n2_eq {R : Type} (k : Nat) (G : GX → GV → Heap → Option R) (σ : GS) (h : Heap) : KC k 21 c2 σ h (fun x σ h => G x (σ 2) h) = n2 k G h := by kernel_rfl
noncomputable def c3 : Code := cL c1
noncomputable def c4 : Code := cR c3
noncomputable def c5 : Code := cL c4
noncomputable def c6 : Code := cL c5
noncomputable def c7 : Code := cR c6
noncomputable def c8 : Code := cR c7
@[simp] def n8 {R : Type} (k : Nat) (G : GX → GV → GV → GV → Heap → Option R) (v0 : GV) (v2 : GV) (v3 : GV) (h : Heap) : Option R := (kbin .sub v3 (.int .i64 1)).bind fun v10 => G .nrm v0 v2 v10 h
theorem n8_eq {R : Type} (k : Nat) (G : GX → GV → GV → GV → Heap → Option R) (σ : GS) (h : Heap) : KC k 21 c8 σ h (fun x σ h => G x (σ 0) (σ 2) (σ 3) h) = n8 k G (σ 0) (σ 2) (σ 3) h := by kernel_rfl
noncomputable def c9 : Code := cL c7
noncomputable def c10 : Code := cL c9
@[simp] def n10 {R : Type} (k : Nat) (G : GX → GV → GV → GV → Heap → Option R) (v0 : GV) (v2 : GV) (v3 : GV) (h : Heap) : Option R := (kia 1 v0 v3).bind fun v13 => (kload1 h v13).bind fun v14 => (kbin .sub v3 (.int .i64 1)).bind fun v17 => (kia 1 v0 v17).bind fun v18 => (kload1 h v18).bind fun v19 => (kN NN fn.cmp_Less_int64 [v14, v19] h).bind fun v20 => kcond v20 (G .ret v0 (.bool false) v3 h) (G .nrm v0 v2 v3 h)
theorem n10_eq {R : Type} (k : Nat) (G : GX → GV → GV → GV → Heap → Option R) (σ : GS) (h : Heap) : KC k 21 c10 σ h (fun x σ h => G x (σ 0) (σ 2) (σ 3) h) = n10 k G (σ 0) (σ 2) (σ 3) h := by kernel_rfl
@[simp] def n9 {R : Type} (k : Nat) (G : GX → GV → GV → GV → Heap → Option R) (v0 : GV) (v2 : GV) (v3 : GV) (h : Heap) : Option R := n10 k (fun x v0 v2 v3 h => kb 1 x fun x => G x v0 v2 v3 h) v0 v2 v3 h
theorem n9_eq {R : Type} (k : Nat) (G : GX → GV → GV → GV → Heap → Option R) (σ : GS) (h : Heap) : KC k 21 c9 σ h (fun x σ h => G x (σ 0) (σ 2) (σ 3) h) = n9 k G (σ 0) (σ 2) (σ 3) h := (kblock_eq (a := c10) rfl).trans (n10_eq k (fun x v0 v2 v3 h => kb 1 x fun x => G x v0 v2 v3 h) σ h)
@[simp] def n7 {R : Type} (k : Nat) (G : GX → GV → GV → GV → Heap → Option R) (v0 : GV) (v2 : GV) (v3 : GV) (h : Heap) : Option R := n9 k (fun x v0 v2 v3 h => kx x (n8 k G v0 v2 v3 h) (G x v0 v2 v3 h)) v0 v2 v3 h
theorem n7_eq {R : Type} (k : Nat) (G : GX → GV → GV → GV → Heap → Option R) (σ : GS) (h : Heap) : KC k 21 c7 σ h (fun x σ h => G x (σ 0) (σ 2) (σ 3) h) = n7 k G (σ 0) (σ 2) (σ 3) h := (kseq (b := c8) rfl (fun σ h => n8_eq k G σ h)).trans (n9_eq k (fun x v0 v2 v3 h => kx x (n8 k G v0 v2 v3 h) (G x v0 v2 v3 h)) σ h)
noncomputable def c11 : Code := cL c6
@[simp] def n6 {R : Type} (k : Nat) (G : GX → GV → GV → GV → Heap → Option R) (v0 : GV) (v2 : GV) (v3 : GV) (h : Heap) : Option R := (kbin .gtr v3 (.int .i64 0)).bind fun v8 => kcond v8 (n7 k G v0 v2 v3 h) (G (.ext 0) v0 v2 v3 h)
theorem n6_eq0 {R : Type} (k : Nat) (G : GX → GV → GV → GV → Heap → Option R) (σ : GS) (h : Heap) : KC k 21 c11 σ h (fun x σ h => kx x (n7 k G (σ 0) (σ 2) (σ 3) h) (G x (σ 0) (σ 2) (σ 3) h)) = n6 k G (σ 0) (σ 2) (σ 3) h := by kernel_rfl
theorem n6_eq {R : Type} (k : Nat) (G : GX → GV → GV → GV → Heap → Option R) (σ : GS) (h : Heap) : KC k 21 c6 σ h (fun x σ h => G x (σ 0) (σ 2) (σ 3) h) = n6 k G (σ 0) (σ 2) (σ 3) h := (kseq (b := c7) rfl (fun σ h => n7_eq k G σ h)).trans (n6_eq0 k G σ h)
def l5 {R : Type} (k : Nat) (G : GX → GV → Heap → Option R) : Nat → GV → GV → GV → Heap → Option R
  | 0, _, _, _, _ => none
  | r + 1, v0, v2, v3, h => n6 k (fun x v0 v2 v3 h => kx x (l5 k G r v0 v2 v3 h) (G x v2 h)) v0 v2 v3 h
theorem l5_eq {R : Type} (k : Nat) (G : GX → GV → Heap → Option R) : ∀ (r : Nat) (σ : GS) (h : Heap), kloop (fun σ h K => KC k 21 c6 σ h K) r σ h (fun x σ h => G x (σ 2) h) = l5 k G r (σ 0) (σ 2) (σ 3) h
  | 0, _, _ => rfl
  | r + 1, σ, h => (kloop_eq (fun σ h => l5_eq k G r σ h)).trans (n6_eq k (fun x v0 v2 v3 h => kx x (l5 k G r v0 v2 v3 h) (G x v2 h)) σ h)
@[simp] def n5 {R : Type} (k : Nat) (G : GX → GV → Heap → Option R) (v0 : GV) (v2 : GV) (v3 : GV) (h : Heap) : Option R := l5 k G k v0 v2 v3 h
theorem n5_eq {R : Type} (k : Nat) (G : GX → GV → Heap → Option R) (σ : GS) (h : Heap) : KC k 21 c5 σ h (fun x σ h => G x (σ 2) h) = n5 k G (σ 0) (σ 2) (σ 3) h := (kloopc_eq (a := c6) rfl).trans (l5_eq k G k σ h)
@[simp] def n4 {R : Type} (k : Nat) (G : GX → GV → Heap → Option R) (v0 : GV) (v2 : GV) (v3 : GV) (h : Heap) : Option R := n5 k (fun x v2 h => kb 0 x fun x => G x v2 h) v0 v2 v3 h
theorem n4_eq {R : Type} (k : Nat) (G : GX → GV → Heap → Option R) (σ : GS) (h : Heap) : KC k 21 c4 σ h (fun x σ h => G x (σ 2) h) = n4 k G (σ 0) (σ 2) (σ 3) h := (kblock_eq (a := c5) rfl).trans (n5_eq k (fun x v2 h => kb 0 x fun x => G x v2 h) σ h)
noncomputable def c12 : Code := cL c3
@[simp] def n3 {R : Type} (k : Nat) (G : GX → GV → Heap → Option R) (v0 : GV) (v2 : GV) (h : Heap) : Option R := (klen v0).bind fun v5 => (kbin .sub v5 (.int .i64 1)).bind fun v6 => n4 k G v0 v2 v6 h
theorem n3_eq0 {R : Type} (k : Nat) (G : GX → GV → Heap → Option R) (σ : GS) (h : Heap) : KC k 21 c12 σ h (fun x σ h => kx x (n4 k G (σ 0) (σ 2) (σ 3) h) (G x (σ 2) h)) = n3 k G (σ 0) (σ 2) h := by kernel_rfl
theorem n3_eq {R : Type} (k : Nat) (G : GX → GV → Heap → Option R) (σ : GS) (h : Heap) : KC k 21 c3 σ h (fun x σ h => G x (σ 2) h) = n3 k G (σ 0) (σ 2) h := (kseq (b := c4) rfl (fun σ h => n4_eq k G σ h)).trans (n3_eq0 k G σ h)
@[simp] def n1 {R : Type} (k : Nat) (G : GX → GV → Heap → Option R) (v0 : GV) (v2 : GV) (h : Heap) : Option R := n3 k (fun x v2 h => kx x (n2 k G h) (G x v2 h)) v0 v2 h
theorem n1_eq {R : Type} (k : Nat) (G : GX → GV → Heap → Option R) (σ : GS) (h : Heap) : KC k 21 c1 σ h (fun x σ h => G x (σ 2) h) = n1 k G (σ 0) (σ 2) h := (kseq (b := c2) rfl (fun σ h => n2_eq k G σ h)).trans (n3_eq k (fun x v2 h => kx x (n2 k G h) (G x v2 h)) σ h)
noncomputable def c13 : Code := cL c0
@[simp] def n0 {R : Type} (k : Nat) (G : GX → GV → Heap → Option R) (v0 : GV) (h : Heap) : Option R := n1 k G v0 (.bool false) h
theorem n0_eq0 {R : Type} (k : Nat) (G : GX → GV → Heap → Option R) (σ : GS) (h : Heap) : KC k 21 c13 σ h (fun x σ h => kx x (n1 k G (σ 0) (σ 2) h) (G x (σ 2) h)) = n0 k G (σ 0) h := by kernel_rfl
theorem n0_eq {R : Type} (k : Nat) (G : GX → GV → Heap → Option R) (σ : GS) (h : Heap) : KC k 21 c0 σ h (fun x σ h => G x (σ 2) h) = n0 k G (σ 0) h := (kseq (b := c1) rfl (fun σ h => n1_eq k G σ h)).trans (n0_eq0 k G σ h)
def run {R : Type} (k : Nat) (a0 : GV) (h : Heap) (fin : GV → Heap → Option R) : Option R := n0 k (fun x v2 h => kend x (fin v2 h)) a0 h
theorem run_eq {R : Type} (k : Nat) (a0 : GV) (h : Heap) (fin : GV → Heap → Option R) : kfun PP cfg NN HH k fn.slices_IsSorted_int64 [a0] h fin = run k a0 h fin := (kfun_eq (nt := 21) (c := c0) (show PP.funcs[fn.slices_IsSorted_int64]? = some Try.f132 by kernel_rfl) (by kernel_rfl) (by kernel_rfl) (fun x σ h => by cases x <;> kernel_rfl)).trans (n0_eq k (fun x v2 h => kend x (fin v2 h)) _ h)
theorem gives {k : Nat} {a0 : GV} {v : GV} (e : run k a0 [] finN = some v) : NN fn.slices_IsSorted_int64 [a0] = some v := nω_of (by kernel_rfl) ((run_eq k a0 [] finN).trans e)
end S.slices_IsSorted_int64
/-! slices_ContainsFunc_int64 -/
namespace S.slices_ContainsFunc_int64
noncomputable def c0 : Code := bodyOf Try.f133
@[simp] def n0 {R : Type} (k : Nat) (G : GX → GV → Heap → Option R) (v0 : GV) (v1 : GV) (h : Heap) : Option R := (kN NN fn.slices_IndexFunc_int64 [v0, v1] h).bind fun v7 => (kbin .geq v7 (.int .i64 0)).bind fun v8 => G .ret v8 h
theorem n0_eq {R : Type} (k : Nat) (G : GX → GV → Heap → Option R) (σ : GS) (h : Heap) : KC k 9 c0 σ h (fun x σ h => G x (σ 4) h) = n0 k G (σ 0) (σ 1) h := by kernel_rfl
def run {R : Type} (k : Nat) (a0 : GV) (a1 : GV) (h : Heap) (fin : GV → Heap → Option R) : Option R := n0 k (fun x v4 h => kend x (fin v4 h)) a0 a1 h
theorem run_eq {R : Type} (k : Nat) (a0 : GV) (a1 : GV) (h : Heap) (fin : GV → Heap → Option R) : kfun PP cfg NN HH k fn.slices_ContainsFunc_int64 [a0, a1] h fin = run k a0 a1 h fin := (kfun_eq (nt := 9) (c := c0) (show PP.funcs[fn.slices_ContainsFunc_int64]? = some Try.f133 by kernel_rfl) (by kernel_rfl) (by kernel_rfl) (fun x σ h => by cases x <;> kernel_rfl)).trans (n0_eq k (fun x v4 h => kend x (fin v4 h)) _ h)
theorem gives {k : Nat} {a0 : GV} {a1 : GV} {v : GV} (e : run k a0 a1 [] finN = some v) : NN fn.slices_ContainsFunc_int64 [a0, a1] = some v := nω_of (by kernel_rfl) ((run_eq k a0 a1 [] finN).trans e)
end S.slices_ContainsFunc_int64
/-! impl_areUp_1 -/
namespace S.impl_areUp_1
noncomputable def c0 : Code := bodyOf Try.f134
@[simp] def n0 {R : Type} (k : Nat) (G : GX → GV → Heap → Option R) (v0 : GV) (v1 : GV) (v2 : GV) (h : Heap) : Option R := (kload1 h v1).bind fun v6 => (kload1 h v2).bind fun v7 => (kN NN fn.impl_in [v0, v6, v7] h).bind fun v8 => (kun .not v8).bind fun v9 => G .ret v9 h
theorem n0_eq {R : Type} (k : Nat) (G : GX → GV → Heap → Option R) (σ : GS) (h : Heap) : KC k 10 c0 σ h (fun x σ h => G x (σ 4) h) = n0 k G (σ 0) (σ 1) (σ 2) h := by kernel_rfl
def run {R : Type} (k : Nat) (a0 : GV) (a1 : GV) (a2 : GV) (h : Heap) (fin : GV → Heap → Option R) : Option R := n0 k (fun x v4 h => kend x (fin v4 h)) a0 a1 a2 h
theorem run_eq {R : Type} (k : Nat) (a0 : GV) (a1 : GV) (a2 : GV) (h : Heap) (fin : GV → Heap → Option R) : kfun PP cfg NN HH k fn.impl_areUp_1 [a0, a1, a2] h fin = run k a0 a1 a2 h fin := (kfun_eq (nt := 10) (c := c0) (show PP.funcs[fn.impl_areUp_1]? = some Try.f134 by kernel_rfl) (by kernel_rfl) (by kernel_rfl) (fun x σ h => by cases x <;> kernel_rfl)).trans (n0_eq k (fun x v4 h => kend x (fin v4 h)) _ h)
theorem gives {k : Nat} {a0 : GV} {a1 : GV} {a2 : GV} {v : GV} (e : run k a0 a1 a2 [] finN = some v) : NN fn.impl_areUp_1 [a0, a1, a2] = some v := nω_of (by kernel_rfl) ((run_eq k a0 a1 a2 [] finN).trans e)
end S.impl_areUp_1
/-! slices_IndexFunc_int64 -/
namespace S.slices_IndexFunc_int64
noncomputable def c0 : Code := bodyOf Try.f140
noncomputable def c1 : Code := cR c0
noncomputable def c2 : Code := cR c1
@[simp] def n2 {R : Type} (k : Nat) (G : GX → GV → Heap → Option R) (h : Heap) : Option R := G .ret (.int .i64 (-1)) h
theorem n2_eq {R : Type} (k : Nat) (G : GX → GV → Heap → Option R) (σ : GS) (h : Heap) : KC k 19 c2 σ h (fun x σ h => G x (σ 4) h) = n2 k G h := by kernel_rfl
noncomputable def c3 : Code := cL c1
noncomputable def c4 : Code := cR c3
noncomputable def c5 : Code := cL c4
noncomputable def c6 : Code := cL c5
noncomputable def c7 : Code := cR c6
noncomputable def c8 : Code := cR c7
noncomputable def c9 : Code := cR c8
@[simp] def n9 {R : Type} (k : Nat) (G : GX → GV → GV → GV → GV → GV → Heap → Option R) (v0 : GV) (v1 : GV) (v4 : GV) (v7 : GV) (v8 : GV) (h : Heap) : Option R := (kbin .add v8 (.int .i64 1)).bind fun v18 => G .nrm v0 v1 v4 v7 v18 h
theorem n9_eq {R : Type} (k : Nat) (G : GX → GV → GV → GV → GV → GV → Heap → Option R) (σ : GS) (h : Heap) : KC k 19 c9 σ h (fun x σ h => G x (σ 0) (σ 1) (σ 4) (σ 7) (σ 8) h) = n9 k G (σ 0) (σ 1) (σ 4) (σ 7) (σ 8) h := by kernel_rfl
noncomputable def c10 : Code := cL c8
noncomputable def c11 : Code := cL c10
@[simp] def n11 {R : Type} (k : Nat) (G : GX → GV → GV → GV → GV → GV → Heap → Option R) (v0 : GV) (v1 : GV) (v4 : GV) (v7 : GV) (v8 : GV) (h : Heap) : Option R := (kia 1 v0 v8).bind fun v14 => (kload1 h v14).bind fun v15 => kval v1 [v15] h fun v16 h => kcond v16 (G .ret v0 v1 v8 v7 v8 h) (G .nrm v0 v1 v4 v7 v8 h)
theorem n11_eq {R : Type} (k : Nat) (G : GX → GV → GV → GV → GV → GV → Heap → Option R) (σ : GS) (h : Heap) : KC k 19 c11 σ h (fun x σ h => G x (σ 0) (σ 1) (σ 4) (σ 7) (σ 8) h) = n11 k G (σ 0) (σ 1) (σ 4) (σ 7) (σ 8) h := by kernel_rfl
@[simp] def n10 {R : Type} (k : Nat) (G : GX → GV → GV → GV → GV → GV → Heap → Option R) (v0 : GV) (v1 : GV) (v4 : GV) (v7 : GV) (v8 : GV) (h : Heap) : Option R := n11 k (fun x v0 v1 v4 v7 v8 h => kb 1 x fun x => G x v0 v1 v4 v7 v8 h) v0 v1 v4 v7 v8 h
theorem n10_eq {R : Type} (k : Nat) (G : GX → GV → GV → GV → GV → GV → Heap → Option R) (σ : GS) (h : Heap) : KC k 19 c10 σ h (fun x σ h => G x (σ 0) (σ 1) (σ 4) (σ 7) (σ 8) h) = n10 k G (σ 0) (σ 1) (σ 4) (σ 7) (σ 8) h := (kblock_eq (a := c11) rfl).trans (n11_eq k (fun x v0 v1 v4 v7 v8 h => kb 1 x fun x => G x v0 v1 v4 v7 v8 h) σ h)
@[simp] def n8 {R : Type} (k : Nat) (G : GX → GV → GV → GV → GV → GV → Heap → Option R) (v0 : GV) (v1 : GV) (v4 : GV) (v7 : GV) (v8 : GV) (h : Heap) : Option R := n10 k (fun x v0 v1 v4 v7 v8 h => kx x (n9 k G v0 v1 v4 v7 v8 h) (G x v0 v1 v4 v7 v8 h)) v0 v1 v4 v7 v8 h
theorem n8_eq {R : Type} (k : Nat) (G : GX → GV → GV → GV → GV → GV → Heap → Option R) (σ : GS) (h : Heap) : KC k 19 c8 σ h (fun x σ h => G x (σ 0) (σ 1) (σ 4) (σ 7) (σ 8) h) = n8 k G (σ 0) (σ 1) (σ 4) (σ 7) (σ 8) h := (kseq (b := c9) rfl (fun σ h => n9_eq k G σ h)).trans (n10_eq k (fun x v0 v1 v4 v7 v8 h => kx x (n9 k G v0 v1 v4 v7 v8 h) (G x v0 v1 v4 v7 v8 h)) σ h)
noncomputable def c12 : Code := cL c7
@[simp] def n7 {R : Type} (k : Nat) (G : GX → GV → GV → GV → GV → GV → Heap → Option R) (v0 : GV) (v1 : GV) (v4 : GV) (v7 : GV) (v8 : GV) (v9 : GV) (h : Heap) : Option R := kcond v9 (n8 k G v0 v1 v4 v7 v8 h) (G (.ext 0) v0 v1 v4 v7 v8 h)
theorem n7_eq0 {R : Type} (k : Nat) (G : GX → GV → GV → GV → GV → GV → Heap → Option R) (σ : GS) (h : Heap) : KC k 19 c12 σ h (fun x σ h => kx x (n8 k G (σ 0) (σ 1) (σ 4) (σ 7) (σ 8) h) (G x (σ 0) (σ 1) (σ 4) (σ 7) (σ 8) h)) = n7 k G (σ 0) (σ 1) (σ 4) (σ 7) (σ 8) (σ 9) h := by kernel_rfl
theorem n7_eq {R : Type} (k : Nat) (G : GX → GV → GV → GV → GV → GV → Heap → Option R) (σ : GS) (h : Heap) : KC k 19 c7 σ h (fun x σ h => G x (σ 0) (σ 1) (σ 4) (σ 7) (σ 8) h) = n7 k G (σ 0) (σ 1) (σ 4) (σ 7) (σ 8) (σ 9) h := (kseq (b := c8) rfl (fun σ h => n8_eq k G σ h)).trans (n7_eq0 k G σ h)
noncomputable def c13 : Code := cL c6
@[simp] def n6 {R : Type} (k : Nat) (G : GX → GV → GV → GV → GV → GV → Heap → Option R) (v0 : GV) (v1 : GV) (v4 : GV) (v7 : GV) (v8 : GV) (h : Heap) : Option R := (kbin .lss v8 v7).bind fun v9 => n7 k G v0 v1 v4 v7 v8 v9 h
theorem n6_eq0 {R : Type} (k : Nat) (G : GX → GV → GV → GV → GV → GV → Heap → Option R) (σ : GS) (h : Heap) : KC k 19 c13 σ h (fun x σ h => kx x (n7 k G (σ 0) (σ 1) (σ 4) (σ 7) (σ 8) (σ 9) h) (G x (σ 0) (σ 1) (σ 4) (σ 7) (σ 8) h)) = n6 k G (σ 0) (σ 1) (σ 4) (σ 7) (σ 8) h := by kernel_rfl
theorem n6_eq {R : Type} (k : Nat) (G : GX → GV → GV → GV → GV → GV → Heap → Option R) (σ : GS) (h : Heap) : KC k 19 c6 σ h (fun x σ h => G x (σ 0) (σ 1) (σ 4) (σ 7) (σ 8) h) = n6 k G (σ 0) (σ 1) (σ 4) (σ 7) (σ 8) h := (kseq (b := c7) rfl (fun σ h => n7_eq k G σ h)).trans (n6_eq0 k G σ h)
def l5 {R : Type} (k : Nat) (G : GX → GV → Heap → Option R) : Nat → GV → GV → GV → GV → GV → Heap → Option R
  | 0, _, _, _, _, _, _ => none
  | r + 1, v0, v1, v4, v7, v8, h => n6 k (fun x v0 v1 v4 v7 v8 h => kx x (l5 k G r v0 v1 v4 v7 v8 h) (G x v4 h)) v0 v1 v4 v7 v8 h
theorem l5_eq {R : Type} (k : Nat) (G : GX → GV → Heap → Option R) : ∀ (r : Nat) (σ : GS) (h : Heap), kloop (fun σ h K => KC k 19 c6 σ h K) r σ h (fun x σ h => G x (σ 4) h) = l5 k G r (σ 0) (σ 1) (σ 4) (σ 7) (σ 8) h
  | 0, _, _ => rfl
  | r + 1, σ, h => (kloop_eq (fun σ h => l5_eq k G r σ h)).trans (n6_eq k (fun x v0 v1 v4 v7 v8 h => kx x (l5 k G r v0 v1 v4 v7 v8 h) (G x v4 h)) σ h)
@[simp] def n5 {R : Type} (k : Nat) (G : GX → GV → Heap → Option R) (v0 : GV) (v1 : GV) (v4 : GV) (v7 : GV) (v8 : GV) (h : Heap) : Option R := l5 k G k v0 v1 v4 v7 v8 h
theorem n5_eq {R : Type} (k : Nat) (G : GX → GV → Heap → Option R) (σ : GS) (h : Heap) : KC k 19 c5 σ h (fun x σ h => G x (σ 4) h) = n5 k G (σ 0) (σ 1) (σ 4) (σ 7) (σ 8) h := (kloopc_eq (a := c6) rfl).trans (l5_eq k G k σ h)
@[simp] def n4 {R : Type} (k : Nat) (G : GX → GV → Heap → Option R) (v0 : GV) (v1 : GV) (v4 : GV) (v7 : GV) (v8 : GV) (h : Heap) : Option R := n5 k (fun x v4 h => kb 0 x fun x => G x v4 h) v0 v1 v4 v7 v8 h
theorem n4_eq {R : Type} (k : Nat) (G : GX → GV → Heap → Option R) (σ : GS) (h : Heap) : KC k 19 c4 σ h (fun x σ h => G x (σ 4) h) = n4 k G (σ 0) (σ 1) (σ 4) (σ 7) (σ 8) h := (kblock_eq (a := c5) rfl).trans (n5_eq k (fun x v4 h => kb 0 x fun x => G x v4 h) σ h)
noncomputable def c14 : Code := cL c3
@[simp] def n3 {R : Type} (k : Nat) (G : GX → GV → Heap → Option R) (v0 : GV) (v1 : GV) (v4 : GV) (h : Heap) : Option R := (klen v0).bind fun v7 => n4 k G v0 v1 v4 v7 (.int .i64 0) h
theorem n3_eq0 {R : Type} (k : Nat) (G : GX → GV → Heap → Option R) (σ : GS) (h : Heap) : KC k 19 c14 σ h (fun x σ h => kx x (n4 k G (σ 0) (σ 1) (σ 4) (σ 7) (σ 8) h) (G x (σ 4) h)) = n3 k G (σ 0) (σ 1) (σ 4) h := by kernel_rfl
theorem n3_eq {R : Type} (k : Nat) (G : GX → GV → Heap → Option R) (σ : GS) (h : Heap) : KC k 19 c3 σ h (fun x σ h => G x (σ 4) h) = n3 k G (σ 0) (σ 1) (σ 4) h := (kseq (b := c4) rfl (fun σ h => n4_eq k G σ h)).trans (n3_eq0 k G σ h)
@[simp] def n1 {R : Type} (k : Nat) (G : GX → GV → Heap → Option R) (v0 : GV) (v1 : GV) (v4 : GV) (h : Heap) : Option R := n3 k (fun x v4 h => kx x (n2 k G h) (G x v4 h)) v0 v1 v4 h
theorem n1_eq {R : Type} (k : Nat) (G : GX → GV → Heap → Option R) (σ : GS) (h : Heap) : KC k 19 c1 σ h (fun x σ h => G x (σ 4) h) = n1 k G (σ 0) (σ 1) (σ 4) h := (kseq (b := c2) rfl (fun σ h => n2_eq k G σ h)).trans (n3_eq k (fun x v4 h => kx x (n2 k G h) (G x v4 h)) σ h)
noncomputable def c15 : Code := cL c0
@[simp] def n0 {R : Type} (k : Nat) (G : GX → GV → Heap → Option R) (v0 : GV) (v1 : GV) (h : Heap) : Option R := n1 k G v0 v1 (.int .i64 0) h
theorem n0_eq0 {R : Type} (k : Nat) (G : GX → GV → Heap → Option R) (σ : GS) (h : Heap) : KC k 19 c15 σ h (fun x σ h => kx x (n1 k G (σ 0) (σ 1) (σ 4) h) (G x (σ 4) h)) = n0 k G (σ 0) (σ 1) h := by kernel_rfl
theorem n0_eq {R : Type} (k : Nat) (G : GX → GV → Heap → Option R) (σ : GS) (h : Heap) : KC k 19 c0 σ h (fun x σ h => G x (σ 4) h) = n0 k G (σ 0) (σ 1) h := (kseq (b := c1) rfl (fun σ h => n1_eq k G σ h)).trans (n0_eq0 k G σ h)
def run {R : Type} (k : Nat) (a0 : GV) (a1 : GV) (h : Heap) (fin : GV → Heap → Option R) : Option R := n0 k (fun x v4 h => kend x (fin v4 h)) a0 a1 h
theorem run_eq {R : Type} (k : Nat) (a0 : GV) (a1 : GV) (h : Heap) (fin : GV → Heap → Option R) : kfun PP cfg NN HH k fn.slices_IndexFunc_int64 [a0, a1] h fin = run k a0 a1 h fin := (kfun_eq (nt := 19) (c := c0) (show PP.funcs[fn.slices_IndexFunc_int64]? = some Try.f140 by kernel_rfl) (by kernel_rfl) (by kernel_rfl) (fun x σ h => by cases x <;> kernel_rfl)).trans (n0_eq k (fun x v4 h => kend x (fin v4 h)) _ h)
theorem gives {k : Nat} {a0 : GV} {a1 : GV} {v : GV} (e : run k a0 a1 [] finN = some v) : NN fn.slices_IndexFunc_int64 [a0, a1] = some v := nω_of (by kernel_rfl) ((run_eq k a0 a1 [] finN).trans e)
end S.slices_IndexFunc_int64
/-! slices_IndexFunc_string -/
namespace S.slices_IndexFunc_string
noncomputable def c0 : Code := bodyOf Try.f142
noncomputable def c1 : Code := cR c0
noncomputable def c2 : Code := cR c1
@[simp] def n2 {R : Type} (k : Nat) (G : GX → GV → Heap → Option R) (h : Heap) : Option R := G .ret (.int .i64 (-1)) h
theorem n2_eq {R : Type} (k : Nat) (G : GX → GV → Heap → Option R) (σ : GS) (h : Heap) : KC k 19 c2 σ h (fun x σ h => G x (σ 4) h) = n2 k G h := by kernel_rfl
noncomputable def c3 : Code := cL c1
noncomputable def c4 : Code := cR c3
noncomputable def c5 : Code := cL c4
noncomputable def c6 : Code := cL c5
noncomputable def c7 : Code := cR c6
noncomputable def c8 : Code := cR c7
noncomputable def c9 : Code := cR c8
@[simp] def n9 {R : Type} (k : Nat) (G : GX → GV → GV → GV → GV → GV → Heap → Option R) (v0 : GV) (v1 : GV) (v4 : GV) (v7 : GV) (v8 : GV) (h : Heap) : Option R := (kbin .add v8 (.int .i64 1)).bind fun v18 => G .nrm v0 v1 v4 v7 v18 h
theorem n9_eq {R : Type} (k : Nat) (G : GX → GV → GV → GV → GV → GV → Heap → Option R) (σ : GS) (h : Heap) : KC k 19 c9 σ h (fun x σ h => G x (σ 0) (σ 1) (σ 4) (σ 7) (σ 8) h) = n9 k G (σ 0) (σ 1) (σ 4) (σ 7) (σ 8) h := by kernel_rfl
noncomputable def c10 : Code := cL c8
noncomputable def c11 : Code := cL c10
@[simp] def n11 {R : Type} (k : Nat) (G : GX → GV → GV → GV → GV → GV → Heap → Option R) (v0 : GV) (v1 : GV) (v4 : GV) (v7 : GV) (v8 : GV) (h : Heap) : Option R := (kia 1 v0 v8).bind fun v14 => (kload1 h v14).bind fun v15 => kval v1 [v15] h fun v16 h => kcond v16 (G .ret v0 v1 v8 v7 v8 h) (G .nrm v0 v1 v4 v7 v8 h)
theorem n11_eq {R : Type} (k : Nat) (G : GX → GV → GV → GV → GV → GV → Heap → Option R) (σ : GS) (h : Heap) : KC k 19 c11 σ h (fun x σ h => G x (σ 0) (σ 1) (σ 4) (σ 7) (σ 8) h) = n11 k G (σ 0) (σ 1) (σ 4) (σ 7) (σ 8) h := by kernel_rfl
@[simp] def n10 {R : Type} (k : Nat) (G : GX → GV → GV → GV → GV → GV → Heap → Option R) (v0 : GV) (v1 : GV) (v4 : GV) (v7 : GV) (v8 : GV) (h : Heap) : Option R := n11 k (fun x v0 v1 v4 v7 v8 h => kb 1 x fun x => G x v0 v1 v4 v7 v8 h) v0 v1 v4 v7 v8 h
theorem n10_eq {R : Type} (k : Nat) (G : GX → GV → GV → GV → GV → GV → Heap → Option R) (σ : GS) (h : Heap) : KC k 19 c10 σ h (fun x σ h => G x (σ 0) (σ 1) (σ 4) (σ 7) (σ 8) h) = n10 k G (σ 0) (σ 1) (σ 4) (σ 7) (σ 8) h := (kblock_eq (a := c11) rfl).trans (n11_eq k (fun x v0 v1 v4 v7 v8 h => kb 1 x fun x => G x v0 v1 v4 v7 v8 h) σ h)
@[simp] def n8 {R : Type} (k : Nat) (G : GX → GV → GV → GV → GV → GV → Heap → Option R) (v0 : GV) (v1 : GV) (v4 : GV) (v7 : GV) (v8 : GV) (h : Heap) : Option R := n10 k (fun x v0 v1 v4 v7 v8 h => kx x (n9 k G v0 v1 v4 v7 v8 h) (G x v0 v1 v4 v7 v8 h)) v0 v1 v4 v7 v8 h
theorem n8_eq {R : Type} (k : Nat) (G : GX → GV → GV → GV → GV → GV → Heap → Option R) (σ : GS) (h : Heap) : KC k 19 c8 σ h (fun x σ h => G x (σ 0) (σ 1) (σ 4) (σ 7) (σ 8) h) = n8 k G (σ 0) (σ 1) (σ 4) (σ 7) (σ 8) h := (kseq (b := c9) rfl (fun σ h => n9_eq k G σ h)).trans (n10_eq k (fun x v0 v1 v4 v7 v8 h => kx x (n9 k G v0 v1 v4 v7 v8 h) (G x v0 v1 v4 v7 v8 h)) σ h)
noncomputable def c12 : Code := cL c7
@[simp] def n7 {R : Type} (k : Nat) (G : GX → GV → GV → GV → GV → GV → Heap → Option R) (v0 : GV) (v1 : GV) (v4 : GV) (v7 : GV) (v8 : GV) (v9 : GV) (h : Heap) : Option R := kcond v9 (n8 k G v0 v1 v4 v7 v8 h) (G (.ext 0) v0 v1 v4 v7 v8 h)
theorem n7_eq0 {R : Type} (k : Nat) (G : GX → GV → GV → GV → GV → GV → Heap → Option R) (σ : GS) (h : Heap) : KC k 19 c12 σ h (fun x σ h => kx x (n8 k G (σ 0) (σ 1) (σ 4) (σ 7) (σ 8) h) (G x (σ 0) (σ 1) (σ 4) (σ 7) (σ 8) h)) = n7 k G (σ 0) (σ 1) (σ 4) (σ 7) (σ 8) (σ 9) h := by kernel_rfl
theorem n7_eq {R : Type} (k : Nat) (G : GX → GV → GV → GV → GV → GV → Heap → Option R) (σ : GS) (h : Heap) : KC k 19 c7 σ h (fun x σ h => G x (σ 0) (σ 1) (σ 4) (σ 7) (σ 8) h) = n7 k G (σ 0) (σ 1) (σ 4) (σ 7) (σ 8) (σ 9) h := (kseq (b := c8) rfl (fun σ h => n8_eq k G σ h)).trans (n7_eq0 k G σ h)
noncomputable def c13 : Code := cL c6
@[simp] def n6 {R : Type} (k : Nat) (G : GX → GV → GV → GV → GV → GV → Heap → Option R) (v0 : GV) (v1 : GV) (v4 : GV) (v7 : GV) (v8 : GV) (h : Heap) : Option R := (kbin .lss v8 v7).bind fun v9 => n7 k G v0 v1 v4 v7 v8 v9 h
theorem n6_eq0 {R : Type} (k : Nat) (G : GX → GV → GV → GV → GV → GV → Heap → Option R) (σ : GS) (h : Heap) : KC k 19 c13 σ h (fun x σ h => kx x (n7 k G (σ 0) (σ 1) (σ 4) (σ 7) (σ 8) (σ 9) h) (G x (σ 0) (σ 1) (σ 4) (σ 7) (σ 8) h)) = n6 k G (σ 0) (σ 1) (σ 4) (σ 7) (σ 8) h := by kernel_rfl
theorem n6_eq {R : Type} (k : Nat) (G : GX → GV → GV → GV → GV → GV → Heap → Option R) (σ : GS) (h : Heap) : KC k 19 c6 σ h (fun x σ h => G x (σ 0) (σ 1) (σ 4) (σ 7) (σ 8) h) = n6 k G (σ 0) (σ 1) (σ 4) (σ 7) (σ 8) h := (kseq (b := c7) rfl (fun σ h => n7_eq k G σ h)).trans (n6_eq0 k G σ h)
def l5 {R : Type} (k : Nat) (G : GX → GV → Heap → Option R) : Nat → GV → GV → GV → GV → GV → Heap → Option R
  | 0, _, _, _, _, _, _ => none
  | r + 1, v0, v1, v4, v7, v8, h => n6 k (fun x v0 v1 v4 v7 v8 h => kx x (l5 k G r v0 v1 v4 v7 v8 h) (G x v4 h)) v0 v1 v4 v7 v8 h
theorem l5_eq {R : Type} (k : Nat) (G : GX → GV → Heap → Option R) : ∀ (r : Nat) (σ : GS) (h : Heap), kloop (fun σ h K => KC k 19 c6 σ h K) r σ h (fun x σ h => G x (σ 4) h) = l5 k G r (σ 0) (σ 1) (σ 4) (σ 7) (σ 8) h
  | 0, _, _ => rfl
  | r + 1, σ, h => (kloop_eq (fun σ h => l5_eq k G r σ h)).trans (n6_eq k (fun x v0 v1 v4 v7 v8 h => kx x (l5 k G r v0 v1 v4 v7 v8 h) (G x v4 h)) σ h)
@[simp] def n5 {R : Type} (k : Nat) (G : GX → GV → Heap → Option R) (v0 : GV) (v1 : GV) (v4 : GV) (v7 : GV) (v8 : GV) (h : Heap) : Option R := l5 k G k v0 v1 v4 v7 v8 h
theorem n5_eq {R : Type} (k : Nat) (G : GX → GV → Heap → Option R) (σ : GS) (h : Heap) : KC k 19 c5 σ h (fun x σ h => G x (σ 4) h) = n5 k G (σ 0) (σ 1) (σ 4) (σ 7) (σ 8) h := (kloopc_eq (a := c6) rfl).trans (l5_eq k G k σ h)
@[simp] def n4 {R : Type} (k : Nat) (G : GX → GV → Heap → Option R) (v0 : GV) (v1 : GV) (v4 : GV) (v7 : GV) (v8 : GV) (h : Heap) : Option R := n5 k (fun x v4 h => kb 0 x fun x => G x v4 h) v0 v1 v4 v7 v8 h
theorem n4_eq {R : Type} (k : Nat) (G : GX → GV → Heap → Option R) (σ : GS) (h : Heap) : KC k 19 c4 σ h (fun x σ h => G x (σ 4) h) = n4 k G (σ 0) (σ 1) (σ 4) (σ 7) (σ 8) h := (kblock_eq (a := c5) rfl).trans (n5_eq k (fun x v4 h => kb 0 x fun x => G x v4 h) σ h)
noncomputable def c14 : Code := cL c3
@[simp] def n3 {R : Type} (k : Nat) (G : GX → GV → Heap → Option R) (v0 : GV) (v1 : GV) (v4 : GV) (h : Heap) : Option R := (klen v0).bind fun v7 => n4 k G v0 v1 v4 v7 (.int .i64 0) h
theorem n3_eq0 {R : Type} (k : Nat) (G : GX → GV → Heap → Option R) (σ : GS) (h : Heap) : KC k 19 c14 σ h (fun x σ h => kx x (n4 k G (σ 0) (σ 1) (σ 4) (σ 7) (σ 8) h) (G x (σ 4) h)) = n3 k G (σ 0) (σ 1) (σ 4) h := by kernel_rfl
theorem n3_eq {R : Type} (k : Nat) (G : GX → GV → Heap → Option R) (σ : GS) (h : Heap) : KC k 19 c3 σ h (fun x σ h => G x (σ 4) h) = n3 k G (σ 0) (σ 1) (σ 4) h := (kseq (b := c4) rfl (fun σ h => n4_eq k G σ h)).trans (n3_eq0 k G σ h)
@[simp] def n1 {R : Type} (k : Nat) (G : GX → GV → Heap → Option R) (v0 : GV) (v1 : GV) (v4 : GV) (h : Heap) : Option R := n3 k (fun x v4 h => kx x (n2 k G h) (G x v4 h)) v0 v1 v4 h
theorem n1_eq {R : Type} (k : Nat) (G : GX → GV → Heap → Option R) (σ : GS) (h : Heap) : KC k 19 c1 σ h (fun x σ h => G x (σ 4) h) = n1 k G (σ 0) (σ 1) (σ 4) h := (kseq (b := c2) rfl (fun σ h => n2_eq k G σ h)).trans (n3_eq k (fun x v4 h => kx x (n2 k G h) (G x v4 h)) σ h)
noncomputable def c15 : Code := cL c0
@[simp] def n0 {R : Type} (k : Nat) (G : GX → GV → Heap → Option R) (v0 : GV) (v1 : GV) (h : Heap) : Option R := n1 k G v0 v1 (.int .i64 0) h
theorem n0_eq0 {R : Type} (k : Nat) (G : GX → GV → Heap → Option R) (σ : GS) (h : Heap) : KC k 19 c15 σ h (fun x σ h => kx x (n1 k G (σ 0) (σ 1) (σ 4) h) (G x (σ 4) h)) = n0 k G (σ 0) (σ 1) h := by kernel_rfl
theorem n0_eq {R : Type} (k : Nat) (G : GX → GV → Heap → Option R) (σ : GS) (h : Heap) : KC k 19 c0 σ h (fun x σ h => G x (σ 4) h) = n0 k G (σ 0) (σ 1) h := (kseq (b := c1) rfl (fun σ h => n1_eq k G σ h)).trans (n0_eq0 k G σ h)
def run {R : Type} (k : Nat) (a0 : GV) (a1 : GV) (h : Heap) (fin : GV → Heap → Option R) : Option R := n0 k (fun x v4 h => kend x (fin v4 h)) a0 a1 h
theorem run_eq {R : Type} (k : Nat) (a0 : GV) (a1 : GV) (h : Heap) (fin : GV → Heap → Option R) : kfun PP cfg NN HH k fn.slices_IndexFunc_string [a0, a1] h fin = run k a0 a1 h fin := (kfun_eq (nt := 19) (c := c0) (show PP.funcs[fn.slices_IndexFunc_string]? = some Try.f142 by kernel_rfl) (by kernel_rfl) (by kernel_rfl) (fun x σ h => by cases x <;> kernel_rfl)).trans (n0_eq k (fun x v4 h => kend x (fin v4 h)) _ h)
theorem gives {k : Nat} {a0 : GV} {a1 : GV} {v : GV} (e : run k a0 a1 [] finN = some v) : NN fn.slices_IndexFunc_string [a0, a1] = some v := nω_of (by kernel_rfl) ((run_eq k a0 a1 [] finN).trans e)
end S.slices_IndexFunc_string
/-! cmp_Less_int64 -/
namespace S.cmp_Less_int64
noncomputable def c0 : Code := bodyOf Try.f143
noncomputable def c1 : Code := cR c0
noncomputable def c2 : Code := cR c1
@[simp] def n2 {R : Type} (k : Nat) (G : GX → GV → Heap → Option R) (v4 : GV) (h : Heap) : Option R := G .ret v4 h
theorem n2_eq {R : Type} (k : Nat) (G : GX → GV → Heap → Option R) (σ : GS) (h : Heap) : KC k 17 c2 σ h (fun x σ h => G x (σ 4) h) = n2 k G (σ 4) h := by kernel_rfl
noncomputable def c3 : Code := cL c1
noncomputable def o3 : Array Oper := cO c3
@[simp] def g3_4 {R : Type} (k : Nat) (G : GX → GV → Heap → Option R) (v12 : GV) (v15 : GV) (h : Heap) : Option R := (kpick v12 (.bool true) v15).bind fun v16 => G .nrm v16 h
theorem g3_4_eq {R : Type} (k : Nat) (G : GX → GV → Heap → Option R) (σ : GS) (h : Heap) : kgroups PP cfg NN HH 17 o3 [(none, [11, 12])] σ h (fun σ h => G .nrm (σ 4) h) = g3_4 k G (σ 12) (σ 15) h := by kernel_rfl
@[simp] def g3_3 {R : Type} (k : Nat) (G : GX → GV → Heap → Option R) (v0 : GV) (v1 : GV) (v12 : GV) (h : Heap) : Option R := bif tr false v12 then (kbin .lss v0 v1).bind fun v15 => g3_4 k G v12 v15 h else g3_4 k G v12 .un h
theorem g3_3_eq0 {R : Type} (k : Nat) (G : GX → GV → Heap → Option R) (σ : GS) (h : Heap) : kgroup1 PP cfg NN HH 17 o3 (some (7, false), [8, 9, 10]) σ h (fun σ h => g3_4 k G (σ 12) (σ 15) h) = g3_3 k G (σ 0) (σ 1) (σ 12) h := by kernel_rfl
theorem g3_3_eq {R : Type} (k : Nat) (G : GX → GV → Heap → Option R) (σ : GS) (h : Heap) : kgroups PP cfg NN HH 17 o3 [(some (7, false), [8, 9, 10]), (none, [11, 12])] σ h (fun σ h => G .nrm (σ 4) h) = g3_3 k G (σ 0) (σ 1) (σ 12) h := (kgroups_cons (fun σ h => g3_4_eq k G σ h)).trans (g3_3_eq0 k G σ h)
@[simp] def g3_2 {R : Type} (k : Nat) (G : GX → GV → Heap → Option R) (v0 : GV) (v1 : GV) (v7 : GV) (v10 : GV) (h : Heap) : Option R := (kpick v7 v10 (.bool false)).bind fun v11 => g3_3 k G v0 v1 v11 h
theorem g3_2_eq0 {R : Type} (k : Nat) (G : GX → GV → Heap → Option R) (σ : GS) (h : Heap) : kgroup1 PP cfg NN HH 17 o3 (none, [6, 7]) σ h (fun σ h => g3_3 k G (σ 0) (σ 1) (σ 12) h) = g3_2 k G (σ 0) (σ 1) (σ 7) (σ 10) h := by kernel_rfl
theorem g3_2_eq {R : Type} (k : Nat) (G : GX → GV → Heap → Option R) (σ : GS) (h : Heap) : kgroups PP cfg NN HH 17 o3 [(none, [6, 7]), (some (7, false), [8, 9, 10]), (none, [11, 12])] σ h (fun σ h => G .nrm (σ 4) h) = g3_2 k G (σ 0) (σ 1) (σ 7) (σ 10) h := (kgroups_cons (fun σ h => g3_3_eq k G σ h)).trans (g3_2_eq0 k G σ h)
@[simp] def g3_1 {R : Type} (k : Nat) (G : GX → GV → Heap → Option R) (v0 : GV) (v1 : GV) (v7 : GV) (h : Heap) : Option R := bif tr true v7 then (kN NN fn.cmp_isNaN_int64 [v1] h).bind fun v9 => (kun .not v9).bind fun v10 => g3_2 k G v0 v1 v7 v10 h else g3_2 k G v0 v1 v7 .un h
theorem g3_1_eq0 {R : Type} (k : Nat) (G : GX → GV → Heap → Option R) (σ : GS) (h : Heap) : kgroup1 PP cfg NN HH 17 o3 (some (2, true), [3, 4, 5]) σ h (fun σ h => g3_2 k G (σ 0) (σ 1) (σ 7) (σ 10) h) = g3_1 k G (σ 0) (σ 1) (σ 7) h := by kernel_rfl
theorem g3_1_eq {R : Type} (k : Nat) (G : GX → GV → Heap → Option R) (σ : GS) (h : Heap) : kgroups PP cfg NN HH 17 o3 [(some (2, true), [3, 4, 5]), (none, [6, 7]), (some (7, false), [8, 9, 10]), (none, [11, 12])] σ h (fun σ h => G .nrm (σ 4) h) = g3_1 k G (σ 0) (σ 1) (σ 7) h := (kgroups_cons (fun σ h => g3_2_eq k G σ h)).trans (g3_1_eq0 k G σ h)
@[simp] def g3_0 {R : Type} (k : Nat) (G : GX → GV → Heap → Option R) (v0 : GV) (v1 : GV) (h : Heap) : Option R := (kN NN fn.cmp_isNaN_int64 [v0] h).bind fun v6 => g3_1 k G v0 v1 v6 h
theorem g3_0_eq0 {R : Type} (k : Nat) (G : GX → GV → Heap → Option R) (σ : GS) (h : Heap) : kgroup1 PP cfg NN HH 17 o3 (none, [0, 1, 2]) σ h (fun σ h => g3_1 k G (σ 0) (σ 1) (σ 7) h) = g3_0 k G (σ 0) (σ 1) h := by kernel_rfl
theorem g3_0_eq {R : Type} (k : Nat) (G : GX → GV → Heap → Option R) (σ : GS) (h : Heap) : kgroups PP cfg NN HH 17 o3 [(none, [0, 1, 2]), (some (2, true), [3, 4, 5]), (none, [6, 7]), (some (7, false), [8, 9, 10]), (none, [11, 12])] σ h (fun σ h => G .nrm (σ 4) h) = g3_0 k G (σ 0) (σ 1) h := (kgroups_cons (fun σ h => g3_1_eq k G σ h)).trans (g3_0_eq0 k G σ h)
@[simp] def n3 {R : Type} (k : Nat) (G : GX → GV → Heap → Option R) (v0 : GV) (v1 : GV) (h : Heap) : Option R := g3_0 k G v0 v1 h
theorem n3_eq {R : Type} (k : Nat) (G : GX → GV → Heap → Option R) (σ : GS) (h : Heap) : KC k 17 c3 σ h (fun x σ h => G x (σ 4) h) = n3 k G (σ 0) (σ 1) h := (kregion_eq (id := 1) (draw := false) (ops := o3) (gs := [(none, [0, 1, 2]), (some (2, true), [3, 4, 5]), (none, [6, 7]), (some (7, false), [8, 9, 10]), (none, [11, 12])]) (by kernel_rfl) (by kernel_rfl) (by kernel_rfl)).trans (g3_0_eq k G σ h)
@[simp] def n1 {R : Type} (k : Nat) (G : GX → GV → Heap → Option R) (v0 : GV) (v1 : GV) (h : Heap) : Option R := n3 k (fun x v4 h => kx x (n2 k G v4 h) (G x v4 h)) v0 v1 h
theorem n1_eq {R : Type} (k : Nat) (G : GX → GV → Heap → Option R) (σ : GS) (h : Heap) : KC k 17 c1 σ h (fun x σ h => G x (σ 4) h) = n1 k G (σ 0) (σ 1) h := (kseq (b := c2) rfl (fun σ h => n2_eq k G σ h)).trans (n3_eq k (fun x v4 h => kx x (n2 k G v4 h) (G x v4 h)) σ h)
noncomputable def c4 : Code := cL c0
@[simp] def n0 {R : Type} (k : Nat) (G : GX → GV → Heap → Option R) (v0 : GV) (v1 : GV) (h : Heap) : Option R := n1 k G v0 v1 h
theorem n0_eq0 {R : Type} (k : Nat) (G : GX → GV → Heap → Option R) (σ : GS) (h : Heap) : KC k 17 c4 σ h (fun x σ h => kx x (n1 k G (σ 0) (σ 1) h) (G x (σ 4) h)) = n0 k G (σ 0) (σ 1) h := by kernel_rfl
theorem n0_eq {R : Type} (k : Nat) (G : GX → GV → Heap → Option R) (σ : GS) (h : Heap) : KC k 17 c0 σ h (fun x σ h => G x (σ 4) h) = n0 k G (σ 0) (σ 1) h := (kseq (b := c1) rfl (fun σ h => n1_eq k G σ h)).trans (n0_eq0 k G σ h)
def run {R : Type} (k : Nat) (a0 : GV) (a1 : GV) (h : Heap) (fin : GV → Heap → Option R) : Option R := n0 k (fun x v4 h => kend x (fin v4 h)) a0 a1 h
theorem run_eq {R : Type} (k : Nat) (a0 : GV) (a1 : GV) (h : Heap) (fin : GV → Heap → Option R) : kfun PP cfg NN HH k fn.cmp_Less_int64 [a0, a1] h fin = run k a0 a1 h fin := (kfun_eq (nt := 17) (c := c0) (show PP.funcs[fn.cmp_Less_int64]? = some Try.f143 by kernel_rfl) (by kernel_rfl) (by kernel_rfl) (fun x σ h => by cases x <;> kernel_rfl)).trans (n0_eq k (fun x v4 h => kend x (fin v4 h)) _ h)
theorem gives {k : Nat} {a0 : GV} {a1 : GV} {v : GV} (e : run k a0 a1 [] finN = some v) : NN fn.cmp_Less_int64 [a0, a1] = some v := nω_of (by kernel_rfl) ((run_eq k a0 a1 [] finN).trans e)
end S.cmp_Less_int64
/-! cmp_isNaN_int64 -/
namespace S.cmp_isNaN_int64
noncomputable def c0 : Code := bodyOf Try.f154
@[simp] def n0 {R : Type} (k : Nat) (G : GX → GV → Heap → Option R) (v0 : GV) (h : Heap) : Option R := (kbin .neq v0 v0).bind fun v5 => G .ret v5 h
theorem n0_eq {R : Type} (k : Nat) (G : GX → GV → Heap → Option R) (σ : GS) (h : Heap) : KC k 6 c0 σ h (fun x σ h => G x (σ 2) h) = n0 k G (σ 0) h := by kernel_rfl
def run {R : Type} (k : Nat) (a0 : GV) (h : Heap) (fin : GV → Heap → Option R) : Option R := n0 k (fun x v2 h => kend x (fin v2 h)) a0 h
theorem run_eq {R : Type} (k : Nat) (a0 : GV) (h : Heap) (fin : GV → Heap → Option R) : kfun PP cfg NN HH k fn.cmp_isNaN_int64 [a0] h fin = run k a0 h fin := (kfun_eq (nt := 6) (c := c0) (show PP.funcs[fn.cmp_isNaN_int64]? = some Try.f154 by kernel_rfl) (by kernel_rfl) (by kernel_rfl) (fun x σ h => by cases x <;> kernel_rfl)).trans (n0_eq k (fun x v2 h => kend x (fin v2 h)) _ h)
theorem gives {k : Nat} {a0 : GV} {v : GV} (e : run k a0 [] finN = some v) : NN fn.cmp_isNaN_int64 [a0] = some v := nω_of (by kernel_rfl) ((run_eq k a0 [] finN).trans e)
end S.cmp_isNaN_int64
end
end Go.Proofs.Ytopmnigfklgnkaa.G
