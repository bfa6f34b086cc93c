/- What these functions do, told for open values, out of the machine with continuations. Printed by a program of this session. -/
import Derived.Test.YtopmnigfklgnkaaSA
import Derived.KernelRfl
namespace Go.Proofs.Ytopmnigfklgnkaa.G
open Go.RowKit
set_option linter.unusedVariables false
set_option maxRecDepth 100000
noncomputable section
/-! spec_Carry -/
namespace S.spec_Carry
noncomputable def c0 : Code := bodyOf Try.f28
@[simp] def n0 {R : Type} (k : Nat) (G : KT2 R) (v0 v1 : GV) (h : Heap) : Option R := kbox v0 h fun v2 h => kalloc [.nils, .nils, .nils] h fun v4 h => (kloadA 3 h v2).bind fun v8 => (kN NN fn.spec_ChainOk [v8] h).bind fun v9 => (kun .not v9).bind fun v10 => kcond v10 ((gfill (fun i => [(0, 1), (1, 1), (2, 1)][i]?) [.nils, .nils, .nils] []).bind fun c => kagg c h fun v11 h => (kstore 3 h v4 v11).bind fun h => G .ret v4 (.bool false) h) ((kloadA 3 h v2).bind fun v12 => (kF false HH fn.spec_l17Copy [v12] h).bind fun r => kr r fun v13 h => kalloc [.nils, .nils, .nils] h fun v6 h => (kstore 3 h v6 v13).bind fun h => (HH fn.spec_l17Carry [v6, v1] h).bind fun r => kr r fun v15 h => (kloadA 3 h v6).bind fun v16 => (kstore 3 h v4 v16).bind fun h => G .ret v4 v15 h)
theorem n0_eq {R : Type} (k : Nat) (G : KT2 R) (σ : GS) (h : Heap) : KC k 18 c0 σ h (fun x σ h => G x (σ 4) (σ 5) h) = n0 k G (σ 0) (σ 1) h := by kernel_rfl
def run {R : Type} (k : Nat) (a0 : GV) (a1 : GV) (h : Heap) (fin : GV → Heap → Option R) : Option R := n0 k (fun x v4 v5 h => kend x ((kloadA 3 h v4).bind fun w4 => fin (.tup [w4, v5]) h)) a0 a1 h
theorem run_eq {R : Type} (k : Nat) (a0 : GV) (a1 : GV) (h : Heap) (fin : GV → Heap → Option R) : kfun PP cfg NN HH k fn.spec_Carry [a0, a1] h fin = run k a0 a1 h fin := (kfun_eq (nt := 18) (c := c0) (show PP.funcs[fn.spec_Carry]? = some Try.f28 by kernel_rfl) (by kernel_rfl) (by kernel_rfl) (fun x σ h => by cases x <;> kernel_rfl)).trans (n0_eq k (fun x v4 v5 h => kend x ((kloadA 3 h v4).bind fun w4 => fin (.tup [w4, v5]) h)) _ h)
theorem gives {k : Nat} {a0 : GV} {a1 : GV} {v : GV} (e : run k a0 a1 [] finN = some v) : NN fn.spec_Carry [a0, a1] = some v := nω_of (by kernel_rfl) ((run_eq k a0 a1 [] finN).trans e)
end S.spec_Carry
/-! impl_Carry -/
namespace S.impl_Carry
noncomputable def c0 : Code := bodyOf Try.f29
@[simp] def n0 {R : Type} (k : Nat) (G : KT2 R) (v0 v1 : GV) (h : Heap) : Option R := kbox v0 h fun v2 h => kbox v1 h fun v3 h => kalloc [.nils, .nils, .nils] h fun v4 h => (kloadA 3 h v2).bind fun v6 => (kF false HH fn.impl_changed [v6, (.fn fn.impl_Carry_1 [v3])] h).bind fun r => kr r fun v8 h => (kxt 0 v8).bind fun v9 => (kxt 1 v8).bind fun v10 => (kstore 3 h v4 v9).bind fun h => G .ret v4 v10 h
theorem n0_eq {R : Type} (k : Nat) (G : KT2 R) (σ : GS) (h : Heap) : KC k 11 c0 σ h (fun x σ h => G x (σ 4) (σ 5) h) = n0 k G (σ 0) (σ 1) h := by kernel_rfl
def run {R : Type} (k : Nat) (a0 : GV) (a1 : GV) (h : Heap) (fin : GV → Heap → Option R) : Option R := n0 k (fun x v4 v5 h => kend x ((kloadA 3 h v4).bind fun w4 => fin (.tup [w4, v5]) h)) a0 a1 h
theorem run_eq {R : Type} (k : Nat) (a0 : GV) (a1 : GV) (h : Heap) (fin : GV → Heap → Option R) : kfun PP cfg NN HH k fn.impl_Carry [a0, a1] h fin = run k a0 a1 h fin := (kfun_eq (nt := 11) (c := c0) (show PP.funcs[fn.impl_Carry]? = some Try.f29 by kernel_rfl) (by kernel_rfl) (by kernel_rfl) (fun x σ h => by cases x <;> kernel_rfl)).trans (n0_eq k (fun x v4 v5 h => kend x ((kloadA 3 h v4).bind fun w4 => fin (.tup [w4, v5]) h)) _ h)
theorem gives {k : Nat} {a0 : GV} {a1 : GV} {b : Nat} {q : GV × List (List GV)} (e : run k a0 a1 [] (finO b) = some q) : OO fn.impl_Carry [a0, a1] b = some q := oω_of ((run_eq k a0 a1 [] (finO b)).trans e)
end S.impl_Carry
/-! impl_Chain_tell -/
namespace S.impl_Chain_tell
noncomputable def c0 : Code := bodyOf Try.f81
noncomputable def c1 : Code := cR c0
noncomputable def c2 : Code := cL c1
noncomputable def o2 : Array Oper := cO c2
@[simp] def g2_0 {R : Type} (k : Nat) (G : KT0 R) (v0 v1 : GV) (rs : List Rec) (h : Heap) : Option R := (knil v0).bind fun v7 => (kfa 2 v7).bind fun v8 => kold h fun h0 => (kload1 h v8).bind fun v9 => krs (rs ++ [⟨3, h0.length, h.length, ⟨kblk v8, []⟩⟩]) fun rs => (kbin .sub v1 (.int .i64 1)).bind fun v11 => (knil v0).bind fun v13 => (kfa 2 v13).bind fun v14 => (kload1 h v14).bind fun v15 => (kbin .sub v1 (.int .i64 1)).bind fun v17 => (kia 1 v15 v17).bind fun v18 => (kload1 h v18).bind fun v19 => (knil v0).bind fun v21 => (kfa 0 v21).bind fun v22 => (kload1 h v22).bind fun v23 => (kia 2 v23 v1).bind fun v25 => (kfa 1 v25).bind fun v26 => (kload1 h v26).bind fun v27 => (gfill (fun i => some (i * 1, 1)) (zeros [(.int .i64 0)] 1) [(0, v27)]).bind fun c => kbs 1 1 c h fun v28 h => kold h fun h0 => (kapp [(.int .i64 0)] 1 8 v19 v28 h).bind fun r => kr r fun v29 h => krs (rs ++ [⟨23, h0.length, h.length, ⟨kblk v19 ++ kblk v28, kblk v19⟩⟩]) fun rs => (kia 1 v9 v11).bind fun v30 => (kstore 1 h v30 v29).bind fun h => bif chk [(3, 23)] rs then G .nrm h else none
theorem g2_0_eq {R : Type} (k : Nat) (G : KT0 R) (rs : List Rec) (σ : GS) (h : Heap) : kgroupsD PP cfg NN HH 31 o2 [(3, 23)] [(none, [0, 1, 2, 3, 4, 5, 6, 7, 8, 9, 10, 11, 12, 13, 14, 15, 16, 17, 18, 19, 20, 21, 22, 23, 24, 25])] rs σ h (fun rs σ h => bif chk [(3, 23)] rs then G .nrm h else none) = g2_0 k G (σ 0) (σ 1) rs h := by kernel_rfl
@[simp] def n2 {R : Type} (k : Nat) (G : KT0 R) (v0 v1 : GV) (h : Heap) : Option R := g2_0 k G v0 v1 [] h
theorem n2_eq {R : Type} (k : Nat) (G : KT0 R) (σ : GS) (h : Heap) : KC k 31 c2 σ h (fun x σ h => G x h) = n2 k G (σ 0) (σ 1) h := (kregionD_eq (id := 1) (draw := true) (ops := o2) (gs := [(none, [0, 1, 2, 3, 4, 5, 6, 7, 8, 9, 10, 11, 12, 13, 14, 15, 16, 17, 18, 19, 20, 21, 22, 23, 24, 25])]) (bad := [(3, 23)]) (by kernel_rfl) (by kernel_rfl) (by kernel_rfl) (by kernel_rfl) (by kernel_rfl)).trans (g2_0_eq k G [] σ h)
noncomputable def c3 : Code := cR c1
@[simp] def n3 {R : Type} (k : Nat) (G : KT0 R) (h : Heap) : Option R := G .nrm h
theorem n3_eq {R : Type} (k : Nat) (G : KT0 R) (σ : GS) (h : Heap) : KC k 31 c3 σ h (fun x σ h => G x h) = n3 k G h := by kernel_rfl
@[simp] def n1 {R : Type} (k : Nat) (G : KT0 R) (v0 v1 v5 : GV) (h : Heap) : Option R := kcond v5 (n2 k G v0 v1 h) (n3 k G h)
theorem n1_eq {R : Type} (k : Nat) (G : KT0 R) (σ : GS) (h : Heap) : KC k 31 c1 σ h (fun x σ h => G x h) = n1 k G (σ 0) (σ 1) (σ 5) h := (kcond_eq (a := c2) (b := c3) rfl (by rfl)).trans (congr (congrArg (kcond (σ 5)) (n2_eq k G σ h)) (n3_eq k G σ h))
noncomputable def c4 : Code := cL c0
@[simp] def n0 {R : Type} (k : Nat) (G : KT0 R) (v0 v1 : GV) (h : Heap) : Option R := (kbin .gtr v1 (.int .i64 0)).bind fun v5 => n1 k G v0 v1 v5 h
theorem n0_eq0 {R : Type} (k : Nat) (G : KT0 R) (σ : GS) (h : Heap) : KC k 31 c4 σ h (fun x σ h => kx x (n1 k G (σ 0) (σ 1) (σ 5) h) (G x h)) = n0 k G (σ 0) (σ 1) h := by kernel_rfl
theorem n0_eq {R : Type} (k : Nat) (G : KT0 R) (σ : GS) (h : Heap) : KC k 31 c0 σ h (fun x σ h => G x h) = n0 k G (σ 0) (σ 1) h := (kseq (b := c1) rfl (fun σ h => n1_eq k G σ h)).trans (n0_eq0 k G σ h)
def run {R : Type} (k : Nat) (a0 : GV) (a1 : GV) (h : Heap) (fin : GV → Heap → Option R) : Option R := n0 k (fun x h => kend x (fin (.tup []) h)) a0 a1 h
theorem run_eq {R : Type} (k : Nat) (a0 : GV) (a1 : GV) (h : Heap) (fin : GV → Heap → Option R) : kfun PP cfg NN HH k fn.impl_Chain_tell [a0, a1] h fin = run k a0 a1 h fin := (kfun_eq (nt := 31) (c := c0) (show PP.funcs[fn.impl_Chain_tell]? = some Try.f81 by kernel_rfl) (by kernel_rfl) (by kernel_rfl) (fun x σ h => by cases x <;> kernel_rfl)).trans (n0_eq k (fun x h => kend x (fin (.tup []) h)) _ h)
theorem gives {k : Nat} {a0 : GV} {a1 : GV} {h : Heap} {r : GV × Heap} (e : run k a0 a1 h finH = some r) : HH fn.impl_Chain_tell [a0, a1] h = some r := kω_of ((run_eq k a0 a1 h finH).trans e)
end S.impl_Chain_tell
/-! spec_l17Carry -/
namespace S.spec_l17Carry
noncomputable def c0 : Code := bodyOf Try.f82
noncomputable def c1 : Code := cR c0
noncomputable def c2 : Code := cR c1
noncomputable def c3 : Code := cR c2
noncomputable def c4 : Code := cR c3
noncomputable def c5 : Code := cR c4
noncomputable def c6 : Code := cR c5
noncomputable def c7 : Code := cR c6
@[simp] def n7 {R : Type} (k : Nat) (G : KT1 R) (h : Heap) : Option R := G .ret (.bool true) h
theorem n7_eq {R : Type} (k : Nat) (G : KT1 R) (σ : GS) (h : Heap) : KC k 121 c7 σ h (fun x σ h => G x (σ 4) h) = n7 k G h := by kernel_rfl
noncomputable def c8 : Code := cL c6
noncomputable def c9 : Code := cR c8
noncomputable def c10 : Code := cL c9
noncomputable def o10 : Array Oper := cO c10
@[simp] def g10_0 {R : Type} (k : Nat) (G : KT1 R) (v0 v1 v4 v5 : GV) (rs : List Rec) (h : Heap) : Option R := (knil v0).bind fun v77 => (kfa 1 v77).bind fun v78 => kold h fun h0 => (kload1 h v78).bind fun v79 => krs (rs ++ [⟨3, h0.length, h.length, ⟨kblk v78, []⟩⟩]) fun rs => (kbin .add v1 (.int .i64 1)).bind fun v81 => (knil v0).bind fun v83 => (kfa 1 v83).bind fun v84 => (kload1 h v84).bind fun v85 => (kbin .add v1 (.int .i64 1)).bind fun v87 => (kia 1 v85 v87).bind fun v88 => (kload1 h v88).bind fun v89 => (gfill (fun i => some (i * 1, 1)) (zeros [(.str { data := #[] })] 1) [(0, v5)]).bind fun c => kbs 1 1 c h fun v91 h => kold h fun h0 => (kapp [(.str { data := #[] })] 1 16 v89 v91 h).bind fun r => kr r fun v92 h => krs (rs ++ [⟨16, h0.length, h.length, ⟨kblk v89 ++ kblk v91, kblk v89⟩⟩]) fun rs => (kia 1 v79 v81).bind fun v93 => (kstore 1 h v93 v92).bind fun h => bif chk [(3, 16)] rs then G .nrm v4 h else none
theorem g10_0_eq {R : Type} (k : Nat) (G : KT1 R) (rs : List Rec) (σ : GS) (h : Heap) : kgroupsD PP cfg NN HH 121 o10 [(3, 16)] [(none, [0, 1, 2, 3, 4, 5, 6, 7, 8, 9, 10, 11, 12, 13, 14, 15, 16, 17, 18])] rs σ h (fun rs σ h => bif chk [(3, 16)] rs then G .nrm (σ 4) h else none) = g10_0 k G (σ 0) (σ 1) (σ 4) (σ 5) rs h := by kernel_rfl
@[simp] def n10 {R : Type} (k : Nat) (G : KT1 R) (v0 v1 v4 v5 : GV) (h : Heap) : Option R := g10_0 k G v0 v1 v4 v5 [] h
theorem n10_eq {R : Type} (k : Nat) (G : KT1 R) (σ : GS) (h : Heap) : KC k 121 c10 σ h (fun x σ h => G x (σ 4) h) = n10 k G (σ 0) (σ 1) (σ 4) (σ 5) h := (kregionD_eq (id := 8) (draw := true) (ops := o10) (gs := [(none, [0, 1, 2, 3, 4, 5, 6, 7, 8, 9, 10, 11, 12, 13, 14, 15, 16, 17, 18])]) (bad := [(3, 16)]) (by kernel_rfl) (by kernel_rfl) (by kernel_rfl) (by kernel_rfl) (by kernel_rfl)).trans (g10_0_eq k G [] σ h)
noncomputable def c11 : Code := cR c9
noncomputable def c12 : Code := cR c11
noncomputable def o12 : Array Oper := cO c12
@[simp] def g12_0 {R : Type} (k : Nat) (G : KT1 R) (v0 v1 v4 v6 : GV) (rs : List Rec) (h : Heap) : Option R := (knil v0).bind fun v103 => (kfa 2 v103).bind fun v104 => kold h fun h0 => (kload1 h v104).bind fun v105 => krs (rs ++ [⟨3, h0.length, h.length, ⟨kblk v104, []⟩⟩]) fun rs => (knil v0).bind fun v108 => (kfa 2 v108).bind fun v109 => (kload1 h v109).bind fun v110 => (kia 1 v110 v1).bind fun v112 => (kload1 h v112).bind fun v113 => (knil v6).bind fun v115 => (kfa 1 v115).bind fun v116 => (kload1 h v116).bind fun v117 => (gfill (fun i => some (i * 1, 1)) (zeros [(.int .i64 0)] 1) [(0, v117)]).bind fun c => kbs 1 1 c h fun v118 h => kold h fun h0 => (kapp [(.int .i64 0)] 1 8 v113 v118 h).bind fun r => kr r fun v119 h => krs (rs ++ [⟨17, h0.length, h.length, ⟨kblk v113 ++ kblk v118, kblk v113⟩⟩]) fun rs => (kia 1 v105 v1).bind fun v120 => (kstore 1 h v120 v119).bind fun h => bif chk [(3, 17)] rs then G .nrm v4 h else none
theorem g12_0_eq {R : Type} (k : Nat) (G : KT1 R) (rs : List Rec) (σ : GS) (h : Heap) : kgroupsD PP cfg NN HH 121 o12 [(3, 17)] [(none, [0, 1, 2, 3, 4, 5, 6, 7, 8, 9, 10, 11, 12, 13, 14, 15, 16, 17, 18, 19])] rs σ h (fun rs σ h => bif chk [(3, 17)] rs then G .nrm (σ 4) h else none) = g12_0 k G (σ 0) (σ 1) (σ 4) (σ 6) rs h := by kernel_rfl
@[simp] def n12 {R : Type} (k : Nat) (G : KT1 R) (v0 v1 v4 v6 : GV) (h : Heap) : Option R := g12_0 k G v0 v1 v4 v6 [] h
theorem n12_eq {R : Type} (k : Nat) (G : KT1 R) (σ : GS) (h : Heap) : KC k 121 c12 σ h (fun x σ h => G x (σ 4) h) = n12 k G (σ 0) (σ 1) (σ 4) (σ 6) h := (kregionD_eq (id := 10) (draw := true) (ops := o12) (gs := [(none, [0, 1, 2, 3, 4, 5, 6, 7, 8, 9, 10, 11, 12, 13, 14, 15, 16, 17, 18, 19])]) (bad := [(3, 17)]) (by kernel_rfl) (by kernel_rfl) (by kernel_rfl) (by kernel_rfl) (by kernel_rfl)).trans (g12_0_eq k G [] σ h)
noncomputable def c13 : Code := cL c11
@[simp] def n11 {R : Type} (k : Nat) (G : KT1 R) (v0 v1 v4 v6 : GV) (h : Heap) : Option R := (knil v6).bind fun v96 => (kfa 1 v96).bind fun v97 => (kload1 h v97).bind fun v98 => (kbin .add v98 (.int .i64 1)).bind fun v99 => (knil v6).bind fun v100 => (kfa 1 v100).bind fun v101 => (kstore 1 h v101 v99).bind fun h => n12 k G v0 v1 v4 v6 h
theorem n11_eq0 {R : Type} (k : Nat) (G : KT1 R) (σ : GS) (h : Heap) : KC k 121 c13 σ h (fun x σ h => kx x (n12 k G (σ 0) (σ 1) (σ 4) (σ 6) h) (G x (σ 4) h)) = n11 k G (σ 0) (σ 1) (σ 4) (σ 6) h := by kernel_rfl
theorem n11_eq {R : Type} (k : Nat) (G : KT1 R) (σ : GS) (h : Heap) : KC k 121 c11 σ h (fun x σ h => G x (σ 4) h) = n11 k G (σ 0) (σ 1) (σ 4) (σ 6) h := (kseq (b := c12) rfl (fun σ h => n12_eq k G σ h)).trans (n11_eq0 k G σ h)
@[simp] def n9 {R : Type} (k : Nat) (G : KT1 R) (v0 v1 v4 v5 v6 v75 : GV) (h : Heap) : Option R := kcond v75 (n10 k G v0 v1 v4 v5 h) (n11 k G v0 v1 v4 v6 h)
theorem n9_eq {R : Type} (k : Nat) (G : KT1 R) (σ : GS) (h : Heap) : KC k 121 c9 σ h (fun x σ h => G x (σ 4) h) = n9 k G (σ 0) (σ 1) (σ 4) (σ 5) (σ 6) (σ 75) h := (kcond_eq (a := c10) (b := c11) rfl (by rfl)).trans (congr (congrArg (kcond (σ 75)) (n10_eq k G σ h)) (n11_eq k G σ h))
noncomputable def c14 : Code := cL c8
@[simp] def n8 {R : Type} (k : Nat) (G : KT1 R) (v0 v1 v4 v5 v6 : GV) (h : Heap) : Option R := (kbin .add v1 (.int .i64 1)).bind fun v69 => (knil v0).bind fun v71 => (kfa 1 v71).bind fun v72 => (kload1 h v72).bind fun v73 => (klen v73).bind fun v74 => (kbin .lss v69 v74).bind fun v75 => n9 k G v0 v1 v4 v5 v6 v75 h
theorem n8_eq0 {R : Type} (k : Nat) (G : KT1 R) (σ : GS) (h : Heap) : KC k 121 c14 σ h (fun x σ h => kx x (n9 k G (σ 0) (σ 1) (σ 4) (σ 5) (σ 6) (σ 75) h) (G x (σ 4) h)) = n8 k G (σ 0) (σ 1) (σ 4) (σ 5) (σ 6) h := by kernel_rfl
theorem n8_eq {R : Type} (k : Nat) (G : KT1 R) (σ : GS) (h : Heap) : KC k 121 c8 σ h (fun x σ h => G x (σ 4) h) = n8 k G (σ 0) (σ 1) (σ 4) (σ 5) (σ 6) h := (kseq (b := c9) rfl (fun σ h => n9_eq k G σ h)).trans (n8_eq0 k G σ h)
@[simp] def n6 {R : Type} (k : Nat) (G : KT1 R) (v0 v1 v4 v5 v6 : GV) (h : Heap) : Option R := n8 k (fun x v4 h => kx x (n7 k G h) (G x v4 h)) v0 v1 v4 v5 v6 h
theorem n6_eq {R : Type} (k : Nat) (G : KT1 R) (σ : GS) (h : Heap) : KC k 121 c6 σ h (fun x σ h => G x (σ 4) h) = n6 k G (σ 0) (σ 1) (σ 4) (σ 5) (σ 6) h := (kseq (b := c7) rfl (fun σ h => n7_eq k G σ h)).trans (n8_eq k (fun x v4 h => kx x (n7 k G h) (G x v4 h)) σ h)
noncomputable def c15 : Code := cL c5
@[simp] def n5 {R : Type} (k : Nat) (G : KT1 R) (v0 v1 v4 v5 v6 : GV) (h : Heap) : Option R := (knil v6).bind fun v60 => (kfa 0 v60).bind fun v61 => (kload1 h v61).bind fun v62 => (gfill (fun i => some (i * 1, 1)) (zeros [(.str { data := #[] })] 1) [(0, v5)]).bind fun c => kbs 1 1 c h fun v64 h => (kapp [(.str { data := #[] })] 1 16 v62 v64 h).bind fun r => kr r fun v65 h => (knil v6).bind fun v66 => (kfa 0 v66).bind fun v67 => (kstore 1 h v67 v65).bind fun h => n6 k G v0 v1 v4 v5 v6 h
theorem n5_eq0 {R : Type} (k : Nat) (G : KT1 R) (σ : GS) (h : Heap) : KC k 121 c15 σ h (fun x σ h => kx x (n6 k G (σ 0) (σ 1) (σ 4) (σ 5) (σ 6) h) (G x (σ 4) h)) = n5 k G (σ 0) (σ 1) (σ 4) (σ 5) (σ 6) h := by kernel_rfl
theorem n5_eq {R : Type} (k : Nat) (G : KT1 R) (σ : GS) (h : Heap) : KC k 121 c5 σ h (fun x σ h => G x (σ 4) h) = n5 k G (σ 0) (σ 1) (σ 4) (σ 5) (σ 6) h := (kseq (b := c6) rfl (fun σ h => n6_eq k G σ h)).trans (n5_eq0 k G σ h)
noncomputable def c16 : Code := cL c4
@[simp] def n4 {R : Type} (k : Nat) (G : KT1 R) (v0 v1 v4 v5 : GV) (h : Heap) : Option R := (knil v0).bind fun v52 => (kfa 0 v52).bind fun v53 => (kload1 h v53).bind fun v54 => (kbin .add v1 (.int .i64 1)).bind fun v56 => (kia 2 v54 v56).bind fun v57 => n5 k G v0 v1 v4 v5 v57 h
theorem n4_eq0 {R : Type} (k : Nat) (G : KT1 R) (σ : GS) (h : Heap) : KC k 121 c16 σ h (fun x σ h => kx x (n5 k G (σ 0) (σ 1) (σ 4) (σ 5) (σ 6) h) (G x (σ 4) h)) = n4 k G (σ 0) (σ 1) (σ 4) (σ 5) h := by kernel_rfl
theorem n4_eq {R : Type} (k : Nat) (G : KT1 R) (σ : GS) (h : Heap) : KC k 121 c4 σ h (fun x σ h => G x (σ 4) h) = n4 k G (σ 0) (σ 1) (σ 4) (σ 5) h := (kseq (b := c5) rfl (fun σ h => n5_eq k G σ h)).trans (n4_eq0 k G σ h)
noncomputable def c17 : Code := cL c3
@[simp] def n3 {R : Type} (k : Nat) (G : KT1 R) (v0 v1 v4 v5 : GV) (h : Heap) : Option R := (knil v0).bind fun v37 => (kfa 1 v37).bind fun v38 => (kload1 h v38).bind fun v39 => (knil v0).bind fun v42 => (kfa 1 v42).bind fun v43 => (kload1 h v43).bind fun v44 => (kia 1 v44 v1).bind fun v46 => (kload1 h v46).bind fun v47 => (ksl 1 v47 (some (.int .i64 1)) none none).bind fun v48 => (kF false HH fn.spec_l17Texts [v48] h).bind fun r => kr r fun v49 h => (kia 1 v39 v1).bind fun v50 => (kstore 1 h v50 v49).bind fun h => n4 k G v0 v1 v4 v5 h
theorem n3_eq0 {R : Type} (k : Nat) (G : KT1 R) (σ : GS) (h : Heap) : KC k 121 c17 σ h (fun x σ h => kx x (n4 k G (σ 0) (σ 1) (σ 4) (σ 5) h) (G x (σ 4) h)) = n3 k G (σ 0) (σ 1) (σ 4) (σ 5) h := by kernel_rfl
theorem n3_eq {R : Type} (k : Nat) (G : KT1 R) (σ : GS) (h : Heap) : KC k 121 c3 σ h (fun x σ h => G x (σ 4) h) = n3 k G (σ 0) (σ 1) (σ 4) (σ 5) h := (kseq (b := c4) rfl (fun σ h => n4_eq k G σ h)).trans (n3_eq0 k G σ h)
noncomputable def c18 : Code := cL c2
@[simp] def n2 {R : Type} (k : Nat) (G : KT1 R) (v0 v1 v4 : GV) (h : Heap) : Option R := (knil v0).bind fun v28 => (kfa 1 v28).bind fun v29 => (kload1 h v29).bind fun v30 => (kia 1 v30 v1).bind fun v32 => (kload1 h v32).bind fun v33 => (kia 1 v33 (.int .i64 0)).bind fun v34 => (kload1 h v34).bind fun v35 => n3 k G v0 v1 v4 v35 h
theorem n2_eq0 {R : Type} (k : Nat) (G : KT1 R) (σ : GS) (h : Heap) : KC k 121 c18 σ h (fun x σ h => kx x (n3 k G (σ 0) (σ 1) (σ 4) (σ 5) h) (G x (σ 4) h)) = n2 k G (σ 0) (σ 1) (σ 4) h := by kernel_rfl
theorem n2_eq {R : Type} (k : Nat) (G : KT1 R) (σ : GS) (h : Heap) : KC k 121 c2 σ h (fun x σ h => G x (σ 4) h) = n2 k G (σ 0) (σ 1) (σ 4) h := (kseq (b := c3) rfl (fun σ h => n3_eq k G σ h)).trans (n2_eq0 k G σ h)
noncomputable def c19 : Code := cL c1
noncomputable def c20 : Code := cR c19
@[simp] def n20 {R : Type} (k : Nat) (G : KT3 R) (v0 v1 v4 v26 : GV) (h : Heap) : Option R := kcond v26 (G .ret v0 v1 (.bool false) h) (G .nrm v0 v1 v4 h)
theorem n20_eq {R : Type} (k : Nat) (G : KT3 R) (σ : GS) (h : Heap) : KC k 121 c20 σ h (fun x σ h => G x (σ 0) (σ 1) (σ 4) h) = n20 k G (σ 0) (σ 1) (σ 4) (σ 26) h := by kernel_rfl
noncomputable def c21 : Code := cL c19
noncomputable def o21 : Array Oper := cO c21
@[simp] def g21_2 {R : Type} (k : Nat) (G : KT4 R) (v0 v1 v4 v16 v25 : GV) (h : Heap) : Option R := (kpick v16 (.bool true) v25).bind fun v26 => G .nrm v0 v1 v4 v26 h
theorem g21_2_eq {R : Type} (k : Nat) (G : KT4 R) (σ : GS) (h : Heap) : kgroups PP cfg NN HH 121 o21 [(none, [19])] σ h (fun σ h => G .nrm (σ 0) (σ 1) (σ 4) (σ 26) h) = g21_2 k G (σ 0) (σ 1) (σ 4) (σ 16) (σ 25) h := by kernel_rfl
@[simp] def g21_1 {R : Type} (k : Nat) (G : KT4 R) (v0 v1 v4 v16 : GV) (h : Heap) : Option R := bif tr false v16 then (knil v0).bind fun v18 => (kfa 1 v18).bind fun v19 => (kload1 h v19).bind fun v20 => (kia 1 v20 v1).bind fun v22 => (kload1 h v22).bind fun v23 => (klen v23).bind fun v24 => (kbin .eql v24 (.int .i64 0)).bind fun v25 => g21_2 k G v0 v1 v4 v16 v25 h else g21_2 k G v0 v1 v4 v16 .un h
theorem g21_1_eq0 {R : Type} (k : Nat) (G : KT4 R) (σ : GS) (h : Heap) : kgroup1 PP cfg NN HH 121 o21 (some (9, false), [10, 11, 12, 13, 14, 15, 16, 17, 18]) σ h (fun σ h => g21_2 k G (σ 0) (σ 1) (σ 4) (σ 16) (σ 25) h) = g21_1 k G (σ 0) (σ 1) (σ 4) (σ 16) h := by kernel_rfl
theorem g21_1_eq {R : Type} (k : Nat) (G : KT4 R) (σ : GS) (h : Heap) : kgroups PP cfg NN HH 121 o21 [(some (9, false), [10, 11, 12, 13, 14, 15, 16, 17, 18]), (none, [19])] σ h (fun σ h => G .nrm (σ 0) (σ 1) (σ 4) (σ 26) h) = g21_1 k G (σ 0) (σ 1) (σ 4) (σ 16) h := (kgroups_cons (fun σ h => g21_2_eq k G σ h)).trans (g21_1_eq0 k G σ h)
@[simp] def g21_0 {R : Type} (k : Nat) (G : KT4 R) (v0 v1 v4 : GV) (h : Heap) : Option R := (knil v0).bind fun v9 => (kfa 1 v9).bind fun v10 => (kload1 h v10).bind fun v11 => (klen v11).bind fun v12 => (kbin .sub v12 (.int .i64 1)).bind fun v13 => (kN NN fn.spec_l1In [v1, (.int .i64 0), v13] h).bind fun v14 => (kun .not v14).bind fun v15 => g21_1 k G v0 v1 v4 v15 h
theorem g21_0_eq0 {R : Type} (k : Nat) (G : KT4 R) (σ : GS) (h : Heap) : kgroup1 PP cfg NN HH 121 o21 (none, [0, 1, 2, 3, 4, 5, 6, 7, 8, 9]) σ h (fun σ h => g21_1 k G (σ 0) (σ 1) (σ 4) (σ 16) h) = g21_0 k G (σ 0) (σ 1) (σ 4) h := by kernel_rfl
theorem g21_0_eq {R : Type} (k : Nat) (G : KT4 R) (σ : GS) (h : Heap) : kgroups PP cfg NN HH 121 o21 [(none, [0, 1, 2, 3, 4, 5, 6, 7, 8, 9]), (some (9, false), [10, 11, 12, 13, 14, 15, 16, 17, 18]), (none, [19])] σ h (fun σ h => G .nrm (σ 0) (σ 1) (σ 4) (σ 26) h) = g21_0 k G (σ 0) (σ 1) (σ 4) h := (kgroups_cons (fun σ h => g21_1_eq k G σ h)).trans (g21_0_eq0 k G σ h)
@[simp] def n21 {R : Type} (k : Nat) (G : KT4 R) (v0 v1 v4 : GV) (h : Heap) : Option R := g21_0 k G v0 v1 v4 h
theorem n21_eq {R : Type} (k : Nat) (G : KT4 R) (σ : GS) (h : Heap) : KC k 121 c21 σ h (fun x σ h => G x (σ 0) (σ 1) (σ 4) (σ 26) h) = n21 k G (σ 0) (σ 1) (σ 4) h := (kregion_eq (id := 1) (draw := false) (ops := o21) (gs := [(none, [0, 1, 2, 3, 4, 5, 6, 7, 8, 9]), (some (9, false), [10, 11, 12, 13, 14, 15, 16, 17, 18]), (none, [19])]) (by kernel_rfl) (by kernel_rfl) (by kernel_rfl)).trans (g21_0_eq k G σ h)
@[simp] def n19 {R : Type} (k : Nat) (G : KT3 R) (v0 v1 v4 : GV) (h : Heap) : Option R := n21 k (fun x v0 v1 v4 v26 h => kx x (n20 k G v0 v1 v4 v26 h) (G x v0 v1 v4 h)) v0 v1 v4 h
theorem n19_eq {R : Type} (k : Nat) (G : KT3 R) (σ : GS) (h : Heap) : KC k 121 c19 σ h (fun x σ h => G x (σ 0) (σ 1) (σ 4) h) = n19 k G (σ 0) (σ 1) (σ 4) h := (kseq (b := c20) rfl (fun σ h => n20_eq k G σ h)).trans (n21_eq k (fun x v0 v1 v4 v26 h => kx x (n20 k G v0 v1 v4 v26 h) (G x v0 v1 v4 h)) σ h)
@[simp] def n1 {R : Type} (k : Nat) (G : KT1 R) (v0 v1 v4 : GV) (h : Heap) : Option R := n19 k (fun x v0 v1 v4 h => kx x (n2 k G v0 v1 v4 h) (G x v4 h)) v0 v1 v4 h
theorem n1_eq {R : Type} (k : Nat) (G : KT1 R) (σ : GS) (h : Heap) : KC k 121 c1 σ h (fun x σ h => G x (σ 4) h) = n1 k G (σ 0) (σ 1) (σ 4) h := (kseq (b := c2) rfl (fun σ h => n2_eq k G σ h)).trans (n19_eq k (fun x v0 v1 v4 h => kx x (n2 k G v0 v1 v4 h) (G x v4 h)) σ h)
noncomputable def c22 : Code := cL c0
@[simp] def n0 {R : Type} (k : Nat) (G : KT1 R) (v0 v1 : GV) (h : Heap) : Option R := n1 k G v0 v1 (.bool false) h
theorem n0_eq0 {R : Type} (k : Nat) (G : KT1 R) (σ : GS) (h : Heap) : KC k 121 c22 σ h (fun x σ h => kx x (n1 k G (σ 0) (σ 1) (σ 4) h) (G x (σ 4) h)) = n0 k G (σ 0) (σ 1) h := by kernel_rfl
theorem n0_eq {R : Type} (k : Nat) (G : KT1 R) (σ : GS) (h : Heap) : KC k 121 c0 σ h (fun x σ h => G x (σ 4) h) = n0 k G (σ 0) (σ 1) h := (kseq (b := c1) rfl (fun σ h => n1_eq k G σ h)).trans (n0_eq0 k G σ h)
def run {R : Type} (k : Nat) (a0 : GV) (a1 : GV) (h : Heap) (fin : GV → Heap → Option R) : Option R := n0 k (fun x v4 h => kend x (fin v4 h)) a0 a1 h
theorem run_eq {R : Type} (k : Nat) (a0 : GV) (a1 : GV) (h : Heap) (fin : GV → Heap → Option R) : kfun PP cfg NN HH k fn.spec_l17Carry [a0, a1] h fin = run k a0 a1 h fin := (kfun_eq (nt := 121) (c := c0) (show PP.funcs[fn.spec_l17Carry]? = some Try.f82 by kernel_rfl) (by kernel_rfl) (by kernel_rfl) (fun x σ h => by cases x <;> kernel_rfl)).trans (n0_eq k (fun x v4 h => kend x (fin v4 h)) _ h)
theorem gives {k : Nat} {a0 : GV} {a1 : GV} {h : Heap} {r : GV × Heap} (e : run k a0 a1 h finH = some r) : HH fn.spec_l17Carry [a0, a1] h = some r := kω_of ((run_eq k a0 a1 h finH).trans e)
end S.spec_l17Carry
/-! impl_Carry_1 -/
namespace S.impl_Carry_1
noncomputable def c0 : Code := bodyOf Try.f83
noncomputable def c1 : Code := cR c0
noncomputable def c2 : Code := cR c1
noncomputable def c3 : Code := cR c2
noncomputable def c4 : Code := cR c3
noncomputable def c5 : Code := cR c4
noncomputable def c6 : Code := cR c5
@[simp] def n6 {R : Type} (k : Nat) (G : KT1 R) (v0 v1 v3 v5 : GV) (h : Heap) : Option R := (knil v5).bind fun v91 => (kfa 1 v91).bind fun v92 => (kload1 h v92).bind fun v93 => (kbin .add v93 (.int .i64 1)).bind fun v94 => (knil v5).bind fun v95 => (kfa 1 v95).bind fun v96 => (kstore 1 h v96 v94).bind fun h => (kload1 h v1).bind fun v98 => (kbin .add v98 (.int .i64 1)).bind fun v99 => (HH fn.impl_Chain_tell [v0, v99] h).bind fun r => kr r fun v100 h => G .ret (.bool true) h
theorem n6_eq {R : Type} (k : Nat) (G : KT1 R) (σ : GS) (h : Heap) : KC k 101 c6 σ h (fun x σ h => G x (σ 3) h) = n6 k G (σ 0) (σ 1) (σ 3) (σ 5) h := by kernel_rfl
noncomputable def c7 : Code := cL c5
noncomputable def c8 : Code := cR c7
noncomputable def c9 : Code := cL c8
noncomputable def c10 : Code := cR c9
@[simp] def n10 {R : Type} (k : Nat) (G : KT4 R) (v0 v1 v5 : GV) (h : Heap) : Option R := G .ret v0 v1 (.bool true) v5 h
theorem n10_eq {R : Type} (k : Nat) (G : KT4 R) (σ : GS) (h : Heap) : KC k 101 c10 σ h (fun x σ h => G x (σ 0) (σ 1) (σ 3) (σ 5) h) = n10 k G (σ 0) (σ 1) (σ 5) h := by kernel_rfl
noncomputable def c11 : Code := cL c9
noncomputable def o11 : Array Oper := cO c11
@[simp] def g11_0 {R : Type} (k : Nat) (G : KT4 R) (v0 v1 v3 v4 v5 : GV) (rs : List Rec) (h : Heap) : Option R := (knil v0).bind fun v73 => (kfa 1 v73).bind fun v74 => kold h fun h0 => (kload1 h v74).bind fun v75 => krs (rs ++ [⟨3, h0.length, h.length, ⟨kblk v74, []⟩⟩]) fun rs => kold h fun h0 => (kload1 h v1).bind fun v76 => krs (rs ++ [⟨4, h0.length, h.length, ⟨kblk v1, []⟩⟩]) fun rs => (kbin .add v76 (.int .i64 1)).bind fun v77 => (knil v0).bind fun v79 => (kfa 1 v79).bind fun v80 => (kload1 h v80).bind fun v81 => (kload1 h v1).bind fun v82 => (kbin .add v82 (.int .i64 1)).bind fun v83 => (kia 1 v81 v83).bind fun v84 => (kload1 h v84).bind fun v85 => (gfill (fun i => some (i * 1, 1)) (zeros [(.str { data := #[] })] 1) [(0, v4)]).bind fun c => kbs 1 1 c h fun v87 h => kold h fun h0 => (kapp [(.str { data := #[] })] 1 16 v85 v87 h).bind fun r => kr r fun v88 h => krs (rs ++ [⟨16, h0.length, h.length, ⟨kblk v85 ++ kblk v87, kblk v85⟩⟩]) fun rs => (kia 1 v75 v77).bind fun v89 => (kstore 1 h v89 v88).bind fun h => bif chk [(3, 16), (4, 16)] rs then G .nrm v0 v1 v3 v5 h else none
theorem g11_0_eq {R : Type} (k : Nat) (G : KT4 R) (rs : List Rec) (σ : GS) (h : Heap) : kgroupsD PP cfg NN HH 101 o11 [(3, 16), (4, 16)] [(none, [0, 1, 2, 3, 4, 5, 6, 7, 8, 9, 10, 11, 12, 13, 14, 15, 16, 17, 18])] rs σ h (fun rs σ h => bif chk [(3, 16), (4, 16)] rs then G .nrm (σ 0) (σ 1) (σ 3) (σ 5) h else none) = g11_0 k G (σ 0) (σ 1) (σ 3) (σ 4) (σ 5) rs h := by kernel_rfl
@[simp] def n11 {R : Type} (k : Nat) (G : KT4 R) (v0 v1 v3 v4 v5 : GV) (h : Heap) : Option R := g11_0 k G v0 v1 v3 v4 v5 [] h
theorem n11_eq {R : Type} (k : Nat) (G : KT4 R) (σ : GS) (h : Heap) : KC k 101 c11 σ h (fun x σ h => G x (σ 0) (σ 1) (σ 3) (σ 5) h) = n11 k G (σ 0) (σ 1) (σ 3) (σ 4) (σ 5) h := (kregionD_eq (id := 7) (draw := true) (ops := o11) (gs := [(none, [0, 1, 2, 3, 4, 5, 6, 7, 8, 9, 10, 11, 12, 13, 14, 15, 16, 17, 18])]) (bad := [(3, 16), (4, 16)]) (by kernel_rfl) (by kernel_rfl) (by kernel_rfl) (by kernel_rfl) (by kernel_rfl)).trans (g11_0_eq k G [] σ h)
@[simp] def n9 {R : Type} (k : Nat) (G : KT4 R) (v0 v1 v3 v4 v5 : GV) (h : Heap) : Option R := n11 k (fun x v0 v1 v3 v5 h => kx x (n10 k G v0 v1 v5 h) (G x v0 v1 v3 v5 h)) v0 v1 v3 v4 v5 h
theorem n9_eq {R : Type} (k : Nat) (G : KT4 R) (σ : GS) (h : Heap) : KC k 101 c9 σ h (fun x σ h => G x (σ 0) (σ 1) (σ 3) (σ 5) h) = n9 k G (σ 0) (σ 1) (σ 3) (σ 4) (σ 5) h := (kseq (b := c10) rfl (fun σ h => n10_eq k G σ h)).trans (n11_eq k (fun x v0 v1 v3 v5 h => kx x (n10 k G v0 v1 v5 h) (G x v0 v1 v3 v5 h)) σ h)
noncomputable def c12 : Code := cR c8
@[simp] def n12 {R : Type} (k : Nat) (G : KT4 R) (v0 v1 v3 v5 : GV) (h : Heap) : Option R := G .nrm v0 v1 v3 v5 h
theorem n12_eq {R : Type} (k : Nat) (G : KT4 R) (σ : GS) (h : Heap) : KC k 101 c12 σ h (fun x σ h => G x (σ 0) (σ 1) (σ 3) (σ 5) h) = n12 k G (σ 0) (σ 1) (σ 3) (σ 5) h := by kernel_rfl
@[simp] def n8 {R : Type} (k : Nat) (G : KT4 R) (v0 v1 v3 v4 v5 v71 : GV) (h : Heap) : Option R := kcond v71 (n9 k G v0 v1 v3 v4 v5 h) (n12 k G v0 v1 v3 v5 h)
theorem n8_eq {R : Type} (k : Nat) (G : KT4 R) (σ : GS) (h : Heap) : KC k 101 c8 σ h (fun x σ h => G x (σ 0) (σ 1) (σ 3) (σ 5) h) = n8 k G (σ 0) (σ 1) (σ 3) (σ 4) (σ 5) (σ 71) h := (kcond_eq (a := c9) (b := c12) rfl (by rfl)).trans (congr (congrArg (kcond (σ 71)) (n9_eq k G σ h)) (n12_eq k G σ h))
noncomputable def c13 : Code := cL c7
@[simp] def n7 {R : Type} (k : Nat) (G : KT4 R) (v0 v1 v3 v4 v5 : GV) (h : Heap) : Option R := (kload1 h v1).bind fun v65 => (kbin .add v65 (.int .i64 1)).bind fun v66 => (knil v0).bind fun v68 => (kloadA 3 h v68).bind fun v69 => (kN NN fn.impl_Chain_last [v69] h).bind fun v70 => (kbin .lss v66 v70).bind fun v71 => n8 k G v0 v1 v3 v4 v5 v71 h
theorem n7_eq0 {R : Type} (k : Nat) (G : KT4 R) (σ : GS) (h : Heap) : KC k 101 c13 σ h (fun x σ h => kx x (n8 k G (σ 0) (σ 1) (σ 3) (σ 4) (σ 5) (σ 71) h) (G x (σ 0) (σ 1) (σ 3) (σ 5) h)) = n7 k G (σ 0) (σ 1) (σ 3) (σ 4) (σ 5) h := by kernel_rfl
theorem n7_eq {R : Type} (k : Nat) (G : KT4 R) (σ : GS) (h : Heap) : KC k 101 c7 σ h (fun x σ h => G x (σ 0) (σ 1) (σ 3) (σ 5) h) = n7 k G (σ 0) (σ 1) (σ 3) (σ 4) (σ 5) h := (kseq (b := c8) rfl (fun σ h => n8_eq k G σ h)).trans (n7_eq0 k G σ h)
@[simp] def n5 {R : Type} (k : Nat) (G : KT1 R) (v0 v1 v3 v4 v5 : GV) (h : Heap) : Option R := n7 k (fun x v0 v1 v3 v5 h => kx x (n6 k G v0 v1 v3 v5 h) (G x v3 h)) v0 v1 v3 v4 v5 h
theorem n5_eq {R : Type} (k : Nat) (G : KT1 R) (σ : GS) (h : Heap) : KC k 101 c5 σ h (fun x σ h => G x (σ 3) h) = n5 k G (σ 0) (σ 1) (σ 3) (σ 4) (σ 5) h := (kseq (b := c6) rfl (fun σ h => n6_eq k G σ h)).trans (n7_eq k (fun x v0 v1 v3 v5 h => kx x (n6 k G v0 v1 v3 v5 h) (G x v3 h)) σ h)
noncomputable def c14 : Code := cL c4
@[simp] def n4 {R : Type} (k : Nat) (G : KT1 R) (v0 v1 v3 v4 v5 : GV) (h : Heap) : Option R := (knil v5).bind fun v57 => (kfa 0 v57).bind fun v58 => (kload1 h v58).bind fun v59 => (gfill (fun i => some (i * 1, 1)) (zeros [(.str { data := #[] })] 1) [(0, v4)]).bind fun c => kbs 1 1 c h fun v61 h => (kapp [(.str { data := #[] })] 1 16 v59 v61 h).bind fun r => kr r fun v62 h => (knil v5).bind fun v63 => (kfa 0 v63).bind fun v64 => (kstore 1 h v64 v62).bind fun h => n5 k G v0 v1 v3 v4 v5 h
theorem n4_eq0 {R : Type} (k : Nat) (G : KT1 R) (σ : GS) (h : Heap) : KC k 101 c14 σ h (fun x σ h => kx x (n5 k G (σ 0) (σ 1) (σ 3) (σ 4) (σ 5) h) (G x (σ 3) h)) = n4 k G (σ 0) (σ 1) (σ 3) (σ 4) (σ 5) h := by kernel_rfl
theorem n4_eq {R : Type} (k : Nat) (G : KT1 R) (σ : GS) (h : Heap) : KC k 101 c4 σ h (fun x σ h => G x (σ 3) h) = n4 k G (σ 0) (σ 1) (σ 3) (σ 4) (σ 5) h := (kseq (b := c5) rfl (fun σ h => n5_eq k G σ h)).trans (n4_eq0 k G σ h)
noncomputable def c15 : Code := cL c3
@[simp] def n3 {R : Type} (k : Nat) (G : KT1 R) (v0 v1 v3 v4 v5 : GV) (h : Heap) : Option R := (knil v0).bind fun v42 => (kfa 1 v42).bind fun v43 => (kload1 h v43).bind fun v44 => (kload1 h v1).bind fun v45 => (knil v0).bind fun v47 => (kfa 1 v47).bind fun v48 => (kload1 h v48).bind fun v49 => (kload1 h v1).bind fun v50 => (kia 1 v49 v50).bind fun v51 => (kload1 h v51).bind fun v52 => (ksl 1 v52 (some (.int .i64 1)) none none).bind fun v53 => (kia 1 v44 v45).bind fun v54 => (kstore 1 h v54 v53).bind fun h => n4 k G v0 v1 v3 v4 v5 h
theorem n3_eq0 {R : Type} (k : Nat) (G : KT1 R) (σ : GS) (h : Heap) : KC k 101 c15 σ h (fun x σ h => kx x (n4 k G (σ 0) (σ 1) (σ 3) (σ 4) (σ 5) h) (G x (σ 3) h)) = n3 k G (σ 0) (σ 1) (σ 3) (σ 4) (σ 5) h := by kernel_rfl
theorem n3_eq {R : Type} (k : Nat) (G : KT1 R) (σ : GS) (h : Heap) : KC k 101 c3 σ h (fun x σ h => G x (σ 3) h) = n3 k G (σ 0) (σ 1) (σ 3) (σ 4) (σ 5) h := (kseq (b := c4) rfl (fun σ h => n4_eq k G σ h)).trans (n3_eq0 k G σ h)
noncomputable def c16 : Code := cL c2
@[simp] def n2 {R : Type} (k : Nat) (G : KT1 R) (v0 v1 v3 : GV) (h : Heap) : Option R := (knil v0).bind fun v26 => (kfa 1 v26).bind fun v27 => (kload1 h v27).bind fun v28 => (kload1 h v1).bind fun v29 => (kia 1 v28 v29).bind fun v30 => (kload1 h v30).bind fun v31 => (kia 1 v31 (.int .i64 0)).bind fun v32 => (kload1 h v32).bind fun v33 => (knil v0).bind fun v35 => (kfa 0 v35).bind fun v36 => (kload1 h v36).bind fun v37 => (kload1 h v1).bind fun v38 => (kbin .add v38 (.int .i64 1)).bind fun v39 => (kia 2 v37 v39).bind fun v40 => n3 k G v0 v1 v3 v33 v40 h
theorem n2_eq0 {R : Type} (k : Nat) (G : KT1 R) (σ : GS) (h : Heap) : KC k 101 c16 σ h (fun x σ h => kx x (n3 k G (σ 0) (σ 1) (σ 3) (σ 4) (σ 5) h) (G x (σ 3) h)) = n2 k G (σ 0) (σ 1) (σ 3) h := by kernel_rfl
theorem n2_eq {R : Type} (k : Nat) (G : KT1 R) (σ : GS) (h : Heap) : KC k 101 c2 σ h (fun x σ h => G x (σ 3) h) = n2 k G (σ 0) (σ 1) (σ 3) h := (kseq (b := c3) rfl (fun σ h => n3_eq k G σ h)).trans (n2_eq0 k G σ h)
noncomputable def c17 : Code := cL c1
noncomputable def c18 : Code := cR c17
@[simp] def n18 {R : Type} (k : Nat) (G : KT3 R) (v0 v1 v3 v24 : GV) (h : Heap) : Option R := kcond v24 (G .ret v0 v1 (.bool false) h) (G .nrm v0 v1 v3 h)
theorem n18_eq {R : Type} (k : Nat) (G : KT3 R) (σ : GS) (h : Heap) : KC k 101 c18 σ h (fun x σ h => G x (σ 0) (σ 1) (σ 3) h) = n18 k G (σ 0) (σ 1) (σ 3) (σ 24) h := by kernel_rfl
noncomputable def c19 : Code := cL c17
noncomputable def o19 : Array Oper := cO c19
@[simp] def g19_2 {R : Type} (k : Nat) (G : KT4 R) (v0 v1 v3 v14 v23 : GV) (h : Heap) : Option R := (kpick v14 (.bool true) v23).bind fun v24 => G .nrm v0 v1 v3 v24 h
theorem g19_2_eq {R : Type} (k : Nat) (G : KT4 R) (σ : GS) (h : Heap) : kgroups PP cfg NN HH 101 o19 [(none, [18])] σ h (fun σ h => G .nrm (σ 0) (σ 1) (σ 3) (σ 24) h) = g19_2 k G (σ 0) (σ 1) (σ 3) (σ 14) (σ 23) h := by kernel_rfl
@[simp] def g19_1 {R : Type} (k : Nat) (G : KT4 R) (v0 v1 v3 v14 : GV) (h : Heap) : Option R := bif tr false v14 then (knil v0).bind fun v16 => (kfa 1 v16).bind fun v17 => (kload1 h v17).bind fun v18 => (kload1 h v1).bind fun v19 => (kia 1 v18 v19).bind fun v20 => (kload1 h v20).bind fun v21 => (klen v21).bind fun v22 => (kbin .eql v22 (.int .i64 0)).bind fun v23 => g19_2 k G v0 v1 v3 v14 v23 h else g19_2 k G v0 v1 v3 v14 .un h
theorem g19_1_eq0 {R : Type} (k : Nat) (G : KT4 R) (σ : GS) (h : Heap) : kgroup1 PP cfg NN HH 101 o19 (some (8, false), [9, 10, 11, 12, 13, 14, 15, 16, 17]) σ h (fun σ h => g19_2 k G (σ 0) (σ 1) (σ 3) (σ 14) (σ 23) h) = g19_1 k G (σ 0) (σ 1) (σ 3) (σ 14) h := by kernel_rfl
theorem g19_1_eq {R : Type} (k : Nat) (G : KT4 R) (σ : GS) (h : Heap) : kgroups PP cfg NN HH 101 o19 [(some (8, false), [9, 10, 11, 12, 13, 14, 15, 16, 17]), (none, [18])] σ h (fun σ h => G .nrm (σ 0) (σ 1) (σ 3) (σ 24) h) = g19_1 k G (σ 0) (σ 1) (σ 3) (σ 14) h := (kgroups_cons (fun σ h => g19_2_eq k G σ h)).trans (g19_1_eq0 k G σ h)
@[simp] def g19_0 {R : Type} (k : Nat) (G : KT4 R) (v0 v1 v3 : GV) (h : Heap) : Option R := (kload1 h v1).bind fun v6 => (knil v0).bind fun v8 => (kloadA 3 h v8).bind fun v9 => (kN NN fn.impl_Chain_last [v9] h).bind fun v10 => (kbin .sub v10 (.int .i64 1)).bind fun v11 => (kN NN fn.impl_in [v6, (.int .i64 0), v11] h).bind fun v12 => (kun .not v12).bind fun v13 => g19_1 k G v0 v1 v3 v13 h
theorem g19_0_eq0 {R : Type} (k : Nat) (G : KT4 R) (σ : GS) (h : Heap) : kgroup1 PP cfg NN HH 101 o19 (none, [0, 1, 2, 3, 4, 5, 6, 7, 8]) σ h (fun σ h => g19_1 k G (σ 0) (σ 1) (σ 3) (σ 14) h) = g19_0 k G (σ 0) (σ 1) (σ 3) h := by kernel_rfl
theorem g19_0_eq {R : Type} (k : Nat) (G : KT4 R) (σ : GS) (h : Heap) : kgroups PP cfg NN HH 101 o19 [(none, [0, 1, 2, 3, 4, 5, 6, 7, 8]), (some (8, false), [9, 10, 11, 12, 13, 14, 15, 16, 17]), (none, [18])] σ h (fun σ h => G .nrm (σ 0) (σ 1) (σ 3) (σ 24) h) = g19_0 k G (σ 0) (σ 1) (σ 3) h := (kgroups_cons (fun σ h => g19_1_eq k G σ h)).trans (g19_0_eq0 k G σ h)
@[simp] def n19 {R : Type} (k : Nat) (G : KT4 R) (v0 v1 v3 : GV) (h : Heap) : Option R := g19_0 k G v0 v1 v3 h
theorem n19_eq {R : Type} (k : Nat) (G : KT4 R) (σ : GS) (h : Heap) : KC k 101 c19 σ h (fun x σ h => G x (σ 0) (σ 1) (σ 3) (σ 24) h) = n19 k G (σ 0) (σ 1) (σ 3) h := (kregion_eq (id := 1) (draw := true) (ops := o19) (gs := [(none, [0, 1, 2, 3, 4, 5, 6, 7, 8]), (some (8, false), [9, 10, 11, 12, 13, 14, 15, 16, 17]), (none, [18])]) (by kernel_rfl) (by kernel_rfl) (by kernel_rfl)).trans (g19_0_eq k G σ h)
@[simp] def n17 {R : Type} (k : Nat) (G : KT3 R) (v0 v1 v3 : GV) (h : Heap) : Option R := n19 k (fun x v0 v1 v3 v24 h => kx x (n18 k G v0 v1 v3 v24 h) (G x v0 v1 v3 h)) v0 v1 v3 h
theorem n17_eq {R : Type} (k : Nat) (G : KT3 R) (σ : GS) (h : Heap) : KC k 101 c17 σ h (fun x σ h => G x (σ 0) (σ 1) (σ 3) h) = n17 k G (σ 0) (σ 1) (σ 3) h := (kseq (b := c18) rfl (fun σ h => n18_eq k G σ h)).trans (n19_eq k (fun x v0 v1 v3 v24 h => kx x (n18 k G v0 v1 v3 v24 h) (G x v0 v1 v3 h)) σ h)
@[simp] def n1 {R : Type} (k : Nat) (G : KT1 R) (v0 v1 v3 : GV) (h : Heap) : Option R := n17 k (fun x v0 v1 v3 h => kx x (n2 k G v0 v1 v3 h) (G x v3 h)) v0 v1 v3 h
theorem n1_eq {R : Type} (k : Nat) (G : KT1 R) (σ : GS) (h : Heap) : KC k 101 c1 σ h (fun x σ h => G x (σ 3) h) = n1 k G (σ 0) (σ 1) (σ 3) h := (kseq (b := c2) rfl (fun σ h => n2_eq k G σ h)).trans (n17_eq k (fun x v0 v1 v3 h => kx x (n2 k G v0 v1 v3 h) (G x v3 h)) σ h)
noncomputable def c20 : Code := cL c0
@[simp] def n0 {R : Type} (k : Nat) (G : KT1 R) (v0 v1 : GV) (h : Heap) : Option R := n1 k G v0 v1 (.bool false) h
theorem n0_eq0 {R : Type} (k : Nat) (G : KT1 R) (σ : GS) (h : Heap) : KC k 101 c20 σ h (fun x σ h => kx x (n1 k G (σ 0) (σ 1) (σ 3) h) (G x (σ 3) h)) = n0 k G (σ 0) (σ 1) h := by kernel_rfl
theorem n0_eq {R : Type} (k : Nat) (G : KT1 R) (σ : GS) (h : Heap) : KC k 101 c0 σ h (fun x σ h => G x (σ 3) h) = n0 k G (σ 0) (σ 1) h := (kseq (b := c1) rfl (fun σ h => n1_eq k G σ h)).trans (n0_eq0 k G σ h)
def run {R : Type} (k : Nat) (a0 : GV) (a1 : GV) (h : Heap) (fin : GV → Heap → Option R) : Option R := n0 k (fun x v3 h => kend x (fin v3 h)) a0 a1 h
theorem run_eq {R : Type} (k : Nat) (a0 : GV) (a1 : GV) (h : Heap) (fin : GV → Heap → Option R) : kfun PP cfg NN HH k fn.impl_Carry_1 [a0, a1] h fin = run k a0 a1 h fin := (kfun_eq (nt := 101) (c := c0) (show PP.funcs[fn.impl_Carry_1]? = some Try.f83 by kernel_rfl) (by kernel_rfl) (by kernel_rfl) (fun x σ h => by cases x <;> kernel_rfl)).trans (n0_eq k (fun x v3 h => kend x (fin v3 h)) _ h)
theorem gives {k : Nat} {a0 : GV} {a1 : GV} {h : Heap} {r : GV × Heap} (e : run k a0 a1 h finH = some r) : HH fn.impl_Carry_1 [a0, a1] h = some r := kω_of ((run_eq k a0 a1 h finH).trans e)
end S.impl_Carry_1
end
end Go.Proofs.Ytopmnigfklgnkaa.G
