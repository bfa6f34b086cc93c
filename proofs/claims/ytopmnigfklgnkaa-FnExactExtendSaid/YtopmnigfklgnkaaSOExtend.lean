/- What these functions do, told for open values, out of the machine with continuations. Printed by a program of this session. -/
import Derived.Test.YtopmnigfklgnkaaSA
import Derived.KernelRfl
namespace Go.Proofs.Ytopmnigfklgnkaa.G
open Go.RowKit
set_option linter.unusedVariables false
set_option maxRecDepth 100000
noncomputable section
/-! spec_Extend -/
namespace S.spec_Extend
noncomputable def c0 : Code := bodyOf Try.f21
@[simp] def n0 {R : Type} (k : Nat) (G : KT2 R) (v0 : GV) (h : Heap) : Option R := kbox v0 h fun v1 h => kalloc [.nils, .nils, .nils] h fun v2 h => (kloadA 3 h v1).bind fun v6 => (kN NN fn.spec_ChainOk [v6] h).bind fun v7 => (kun .not v7).bind fun v8 => kcond v8 ((gfill (fun i => [(0, 1), (1, 1), (2, 1)][i]?) [.nils, .nils, .nils] []).bind fun c => kagg c h fun v9 h => (kstore 3 h v2 v9).bind fun h => G .ret v2 (.bool false) h) ((kloadA 3 h v1).bind fun v10 => (kF false HH fn.spec_l17Copy [v10] h).bind fun r => kr r fun v11 h => kalloc [.nils, .nils, .nils] h fun v4 h => (kstore 3 h v4 v11).bind fun h => (HH fn.spec_l17Extend [v4] h).bind fun r => kr r fun v12 h => (kloadA 3 h v4).bind fun v13 => (kstore 3 h v2 v13).bind fun h => G .ret v2 v12 h)
theorem n0_eq {R : Type} (k : Nat) (G : KT2 R) (σ : GS) (h : Heap) : KC k 15 c0 σ h (fun x σ h => G x (σ 2) (σ 3) h) = n0 k G (σ 0) h := by kernel_rfl
def run {R : Type} (k : Nat) (a0 : GV) (h : Heap) (fin : GV → Heap → Option R) : Option R := n0 k (fun x v2 v3 h => kend x ((kloadA 3 h v2).bind fun w2 => fin (.tup [w2, v3]) h)) a0 h
theorem run_eq {R : Type} (k : Nat) (a0 : GV) (h : Heap) (fin : GV → Heap → Option R) : kfun PP cfg NN HH k fn.spec_Extend [a0] h fin = run k a0 h fin := (kfun_eq (nt := 15) (c := c0) (show PP.funcs[fn.spec_Extend]? = some Try.f21 by kernel_rfl) (by kernel_rfl) (by kernel_rfl) (fun x σ h => by cases x <;> kernel_rfl)).trans (n0_eq k (fun x v2 v3 h => kend x ((kloadA 3 h v2).bind fun w2 => fin (.tup [w2, v3]) h)) _ h)
theorem gives {k : Nat} {a0 : GV} {v : GV} (e : run k a0 [] finN = some v) : NN fn.spec_Extend [a0] = some v := nω_of (by kernel_rfl) ((run_eq k a0 [] finN).trans e)
end S.spec_Extend
/-! impl_Extend -/
namespace S.impl_Extend
noncomputable def c0 : Code := bodyOf Try.f22
@[simp] def n0 {R : Type} (k : Nat) (G : KT2 R) (v0 : GV) (h : Heap) : Option R := kbox v0 h fun v1 h => kalloc [.nils, .nils, .nils] h fun v2 h => (kloadA 3 h v1).bind fun v4 => (kF false HH fn.impl_changed [v4, (.fn fn.impl_Extend_1 [])] h).bind fun r => kr r fun v5 h => (kxt 0 v5).bind fun v6 => (kxt 1 v5).bind fun v7 => (kstore 3 h v2 v6).bind fun h => G .ret v2 v7 h
theorem n0_eq {R : Type} (k : Nat) (G : KT2 R) (σ : GS) (h : Heap) : KC k 8 c0 σ h (fun x σ h => G x (σ 2) (σ 3) h) = n0 k G (σ 0) h := by kernel_rfl
def run {R : Type} (k : Nat) (a0 : GV) (h : Heap) (fin : GV → Heap → Option R) : Option R := n0 k (fun x v2 v3 h => kend x ((kloadA 3 h v2).bind fun w2 => fin (.tup [w2, v3]) h)) a0 h
theorem run_eq {R : Type} (k : Nat) (a0 : GV) (h : Heap) (fin : GV → Heap → Option R) : kfun PP cfg NN HH k fn.impl_Extend [a0] h fin = run k a0 h fin := (kfun_eq (nt := 8) (c := c0) (show PP.funcs[fn.impl_Extend]? = some Try.f22 by kernel_rfl) (by kernel_rfl) (by kernel_rfl) (fun x σ h => by cases x <;> kernel_rfl)).trans (n0_eq k (fun x v2 v3 h => kend x ((kloadA 3 h v2).bind fun w2 => fin (.tup [w2, v3]) h)) _ h)
theorem gives {k : Nat} {a0 : GV} {b : Nat} {q : GV × List (List GV)} (e : run k a0 [] (finO b) = some q) : OO fn.impl_Extend [a0] b = some q := oω_of ((run_eq k a0 [] (finO b)).trans e)
end S.impl_Extend
/-! spec_l17Extend -/
namespace S.spec_l17Extend
noncomputable def c0 : Code := bodyOf Try.f69
noncomputable def c1 : Code := cR c0
noncomputable def c2 : Code := cR c1
noncomputable def c3 : Code := cR c2
noncomputable def c4 : Code := cR c3
noncomputable def c5 : Code := cR c4
@[simp] def n5 {R : Type} (k : Nat) (G : KT1 R) (v0 v2 : GV) (h : Heap) : Option R := (knil v0).bind fun v37 => (kfa 1 v37).bind fun v38 => (kload1 h v38).bind fun v39 => (gfill (fun i => some (i * 1, 1)) (zeros [.nils] 1) [(0, .emp)]).bind fun c => kbs 1 1 c h fun v41 h => (kapp [.nils] 1 24 v39 v41 h).bind fun r => kr r fun v42 h => (knil v0).bind fun v43 => (kfa 1 v43).bind fun v44 => (kstore 1 h v44 v42).bind fun h => (knil v0).bind fun v47 => (kfa 2 v47).bind fun v48 => (kload1 h v48).bind fun v49 => (gfill (fun i => some (i * 1, 1)) (zeros [.nils] 1) [(0, .emp)]).bind fun c => kbs 1 1 c h fun v51 h => (kapp [.nils] 1 24 v49 v51 h).bind fun r => kr r fun v52 h => (knil v0).bind fun v53 => (kfa 2 v53).bind fun v54 => (kstore 1 h v54 v52).bind fun h => G .ret (.bool true) h
theorem n5_eq {R : Type} (k : Nat) (G : KT1 R) (σ : GS) (h : Heap) : KC k 55 c5 σ h (fun x σ h => G x (σ 2) h) = n5 k G (σ 0) (σ 2) h := by kernel_rfl
noncomputable def c6 : Code := cL c4
noncomputable def o6 : Array Oper := cO c6
@[simp] def g6_0 {R : Type} (k : Nat) (G : KT2 R) (v0 v2 v4 : GV) (rs : List Rec) (h : Heap) : Option R := (knil v0).bind fun v22 => (kfa 0 v22).bind fun v23 => (kload1 h v23).bind fun v24 => (kfa 0 v4).bind fun v25 => (kload1 h v25).bind fun v26 => kold h fun h0 => (kF false HH fn.spec_l17Texts [v26] h).bind fun r => kr r fun v27 h => krs (rs ++ [⟨7, h0.length, h.length, ⟨[v26].flatMap (kborr h0), []⟩⟩]) fun rs => (kfa 1 v4).bind fun v28 => kold h fun h0 => (kload1 h v28).bind fun v29 => krs (rs ++ [⟨9, h0.length, h.length, ⟨kblk v28, []⟩⟩]) fun rs => (gfill (fun i => [(0, 1), (1, 1)][i]?) [.nils, (.int .i64 0)] [(0, v27), (1, v29)]).bind fun c => kagg c h fun v30 h => (gfill (fun i => some (i * 2, 2)) (zeros [.nils, (.int .i64 0)] 1) [(0, v30)]).bind fun c => kbs 1 2 c h fun v31 h => (kapp [.nils, (.int .i64 0)] 2 32 v24 v31 h).bind fun r => kr r fun v32 h => (knil v0).bind fun v33 => (kfa 0 v33).bind fun v34 => (kstore 1 h v34 v32).bind fun h => bif chk [(7, 9)] rs then G .nrm v0 v2 h else none
theorem g6_0_eq {R : Type} (k : Nat) (G : KT2 R) (rs : List Rec) (σ : GS) (h : Heap) : kgroupsD PP cfg NN HH 55 o6 [(7, 9)] [(none, [0, 1, 2, 3, 4, 5, 6, 7, 8, 9, 10, 11, 12, 13, 14, 15])] rs σ h (fun rs σ h => bif chk [(7, 9)] rs then G .nrm (σ 0) (σ 2) h else none) = g6_0 k G (σ 0) (σ 2) (σ 4) rs h := by kernel_rfl
@[simp] def n6 {R : Type} (k : Nat) (G : KT2 R) (v0 v2 v4 : GV) (h : Heap) : Option R := g6_0 k G v0 v2 v4 [] h
theorem n6_eq {R : Type} (k : Nat) (G : KT2 R) (σ : GS) (h : Heap) : KC k 55 c6 σ h (fun x σ h => G x (σ 0) (σ 2) h) = n6 k G (σ 0) (σ 2) (σ 4) h := (kregionD_eq (id := 5) (draw := true) (ops := o6) (gs := [(none, [0, 1, 2, 3, 4, 5, 6, 7, 8, 9, 10, 11, 12, 13, 14, 15])]) (bad := [(7, 9)]) (by kernel_rfl) (by kernel_rfl) (by kernel_rfl) (by kernel_rfl) (by kernel_rfl)).trans (g6_0_eq k G [] σ h)
@[simp] def n4 {R : Type} (k : Nat) (G : KT1 R) (v0 v2 v4 : GV) (h : Heap) : Option R := n6 k (fun x v0 v2 h => kx x (n5 k G v0 v2 h) (G x v2 h)) v0 v2 v4 h
theorem n4_eq {R : Type} (k : Nat) (G : KT1 R) (σ : GS) (h : Heap) : KC k 55 c4 σ h (fun x σ h => G x (σ 2) h) = n4 k G (σ 0) (σ 2) (σ 4) h := (kseq (b := c5) rfl (fun σ h => n5_eq k G σ h)).trans (n6_eq k (fun x v0 v2 h => kx x (n5 k G v0 v2 h) (G x v2 h)) σ h)
noncomputable def c7 : Code := cL c3
@[simp] def n3 {R : Type} (k : Nat) (G : KT1 R) (v0 v2 v3 : GV) (h : Heap) : Option R := (knil v0).bind fun v13 => (kfa 0 v13).bind fun v14 => (kload1 h v14).bind fun v15 => (kbin .sub v3 (.int .i64 1)).bind fun v17 => (kia 2 v15 v17).bind fun v18 => (kloadA 2 h v18).bind fun v19 => kalloc [.nils, (.int .i64 0)] h fun v4 h => (kstore 2 h v4 v19).bind fun h => n4 k G v0 v2 v4 h
theorem n3_eq0 {R : Type} (k : Nat) (G : KT1 R) (σ : GS) (h : Heap) : KC k 55 c7 σ h (fun x σ h => kx x (n4 k G (σ 0) (σ 2) (σ 4) h) (G x (σ 2) h)) = n3 k G (σ 0) (σ 2) (σ 3) h := by kernel_rfl
theorem n3_eq {R : Type} (k : Nat) (G : KT1 R) (σ : GS) (h : Heap) : KC k 55 c3 σ h (fun x σ h => G x (σ 2) h) = n3 k G (σ 0) (σ 2) (σ 3) h := (kseq (b := c4) rfl (fun σ h => n4_eq k G σ h)).trans (n3_eq0 k G σ h)
noncomputable def c8 : Code := cL c2
@[simp] def n2 {R : Type} (k : Nat) (G : KT1 R) (v0 v2 v3 : GV) (h : Heap) : Option R := (kbin .eql v3 (.int .i64 5)).bind fun v11 => kcond v11 (G .ret (.bool false) h) (n3 k G v0 v2 v3 h)
theorem n2_eq0 {R : Type} (k : Nat) (G : KT1 R) (σ : GS) (h : Heap) : KC k 55 c8 σ h (fun x σ h => kx x (n3 k G (σ 0) (σ 2) (σ 3) h) (G x (σ 2) h)) = n2 k G (σ 0) (σ 2) (σ 3) h := by kernel_rfl
theorem n2_eq {R : Type} (k : Nat) (G : KT1 R) (σ : GS) (h : Heap) : KC k 55 c2 σ h (fun x σ h => G x (σ 2) h) = n2 k G (σ 0) (σ 2) (σ 3) h := (kseq (b := c3) rfl (fun σ h => n3_eq k G σ h)).trans (n2_eq0 k G σ h)
noncomputable def c9 : Code := cL c1
@[simp] def n1 {R : Type} (k : Nat) (G : KT1 R) (v0 v2 : GV) (h : Heap) : Option R := (knil v0).bind fun v6 => (kfa 0 v6).bind fun v7 => (kload1 h v7).bind fun v8 => (klen v8).bind fun v9 => n2 k G v0 v2 v9 h
theorem n1_eq0 {R : Type} (k : Nat) (G : KT1 R) (σ : GS) (h : Heap) : KC k 55 c9 σ h (fun x σ h => kx x (n2 k G (σ 0) (σ 2) (σ 3) h) (G x (σ 2) h)) = n1 k G (σ 0) (σ 2) h := by kernel_rfl
theorem n1_eq {R : Type} (k : Nat) (G : KT1 R) (σ : GS) (h : Heap) : KC k 55 c1 σ h (fun x σ h => G x (σ 2) h) = n1 k G (σ 0) (σ 2) h := (kseq (b := c2) rfl (fun σ h => n2_eq k G σ h)).trans (n1_eq0 k G σ h)
noncomputable def c10 : Code := cL c0
@[simp] def n0 {R : Type} (k : Nat) (G : KT1 R) (v0 : GV) (h : Heap) : Option R := n1 k G v0 (.bool false) h
theorem n0_eq0 {R : Type} (k : Nat) (G : KT1 R) (σ : GS) (h : Heap) : KC k 55 c10 σ h (fun x σ h => kx x (n1 k G (σ 0) (σ 2) h) (G x (σ 2) h)) = n0 k G (σ 0) h := by kernel_rfl
theorem n0_eq {R : Type} (k : Nat) (G : KT1 R) (σ : GS) (h : Heap) : KC k 55 c0 σ h (fun x σ h => G x (σ 2) h) = n0 k G (σ 0) h := (kseq (b := c1) rfl (fun σ h => n1_eq k G σ h)).trans (n0_eq0 k G σ h)
def run {R : Type} (k : Nat) (a0 : GV) (h : Heap) (fin : GV → Heap → Option R) : Option R := n0 k (fun x v2 h => kend x (fin v2 h)) a0 h
theorem run_eq {R : Type} (k : Nat) (a0 : GV) (h : Heap) (fin : GV → Heap → Option R) : kfun PP cfg NN HH k fn.spec_l17Extend [a0] h fin = run k a0 h fin := (kfun_eq (nt := 55) (c := c0) (show PP.funcs[fn.spec_l17Extend]? = some Try.f69 by kernel_rfl) (by kernel_rfl) (by kernel_rfl) (fun x σ h => by cases x <;> kernel_rfl)).trans (n0_eq k (fun x v2 h => kend x (fin v2 h)) _ h)
theorem gives {k : Nat} {a0 : GV} {h : Heap} {r : GV × Heap} (e : run k a0 h finH = some r) : HH fn.spec_l17Extend [a0] h = some r := kω_of ((run_eq k a0 h finH).trans e)
end S.spec_l17Extend
/-! impl_Extend_1 -/
namespace S.impl_Extend_1
noncomputable def c0 : Code := bodyOf Try.f71
noncomputable def c1 : Code := cR c0
noncomputable def c2 : Code := cR c1
noncomputable def c3 : Code := cR c2
noncomputable def c4 : Code := cR c3
noncomputable def c5 : Code := cR c4
@[simp] def n5 {R : Type} (k : Nat) (G : KT1 R) (h : Heap) : Option R := G .ret (.bool true) h
theorem n5_eq {R : Type} (k : Nat) (G : KT1 R) (σ : GS) (h : Heap) : KC k 53 c5 σ h (fun x σ h => G x (σ 2) h) = n5 k G h := by kernel_rfl
noncomputable def c6 : Code := cL c4
noncomputable def o6 : Array Oper := cO c6
@[simp] def g6_0 {R : Type} (k : Nat) (G : KT1 R) (v0 v2 : GV) (rs : List Rec) (h : Heap) : Option R := (knil v0).bind fun v38 => (kfa 1 v38).bind fun v39 => (kload1 h v39).bind fun v40 => kold h fun h0 => (gfill (fun i => some (i * 1, 1)) (zeros [.nils] 1) [(0, .nils)]).bind fun c => kbs 1 1 c h fun v41 h => krs (rs ++ [⟨6, h0.length, h.length, ⟨[], []⟩⟩]) fun rs => kold h fun h0 => (kapp [.nils] 1 24 v40 v41 h).bind fun r => kr r fun v42 h => krs (rs ++ [⟨7, h0.length, h.length, ⟨kblk v40 ++ kblk v41, kblk v40⟩⟩]) fun rs => (knil v0).bind fun v44 => (kfa 2 v44).bind fun v45 => kold h fun h0 => (kload1 h v45).bind fun v46 => krs (rs ++ [⟨11, h0.length, h.length, ⟨kblk v45, []⟩⟩]) fun rs => kold h fun h0 => (gfill (fun i => some (i * 1, 1)) (zeros [.nils] 1) [(0, .nils)]).bind fun c => kbs 1 1 c h fun v47 h => krs (rs ++ [⟨12, h0.length, h.length, ⟨[], []⟩⟩]) fun rs => (kapp [.nils] 1 24 v46 v47 h).bind fun r => kr r fun v48 h => (knil v0).bind fun v49 => (kfa 1 v49).bind fun v50 => (kstore 1 h v50 v42).bind fun h => (knil v0).bind fun v51 => (kfa 2 v51).bind fun v52 => (kstore 1 h v52 v48).bind fun h => bif chk [(6, 11), (7, 11), (7, 12)] rs then G .nrm v2 h else none
theorem g6_0_eq {R : Type} (k : Nat) (G : KT1 R) (rs : List Rec) (σ : GS) (h : Heap) : kgroupsD PP cfg NN HH 53 o6 [(6, 11), (7, 11), (7, 12)] [(none, [0, 1, 2, 3, 4, 5, 6, 7, 8, 9, 10, 11, 12, 13, 14, 15, 16, 17, 18, 19])] rs σ h (fun rs σ h => bif chk [(6, 11), (7, 11), (7, 12)] rs then G .nrm (σ 2) h else none) = g6_0 k G (σ 0) (σ 2) rs h := by kernel_rfl
@[simp] def n6 {R : Type} (k : Nat) (G : KT1 R) (v0 v2 : GV) (h : Heap) : Option R := g6_0 k G v0 v2 [] h
theorem n6_eq {R : Type} (k : Nat) (G : KT1 R) (σ : GS) (h : Heap) : KC k 53 c6 σ h (fun x σ h => G x (σ 2) h) = n6 k G (σ 0) (σ 2) h := (kregionD_eq (id := 5) (draw := true) (ops := o6) (gs := [(none, [0, 1, 2, 3, 4, 5, 6, 7, 8, 9, 10, 11, 12, 13, 14, 15, 16, 17, 18, 19])]) (bad := [(6, 11), (7, 11), (7, 12)]) (by kernel_rfl) (by kernel_rfl) (by kernel_rfl) (by kernel_rfl) (by kernel_rfl)).trans (g6_0_eq k G [] σ h)
@[simp] def n4 {R : Type} (k : Nat) (G : KT1 R) (v0 v2 : GV) (h : Heap) : Option R := n6 k (fun x v2 h => kx x (n5 k G h) (G x v2 h)) v0 v2 h
theorem n4_eq {R : Type} (k : Nat) (G : KT1 R) (σ : GS) (h : Heap) : KC k 53 c4 σ h (fun x σ h => G x (σ 2) h) = n4 k G (σ 0) (σ 2) h := (kseq (b := c5) rfl (fun σ h => n5_eq k G σ h)).trans (n6_eq k (fun x v2 h => kx x (n5 k G h) (G x v2 h)) σ h)
noncomputable def c7 : Code := cL c3
noncomputable def o7 : Array Oper := cO c7
@[simp] def g7_0 {R : Type} (k : Nat) (G : KT2 R) (v0 v2 v3 : GV) (rs : List Rec) (h : Heap) : Option R := (knil v0).bind fun v22 => (kfa 0 v22).bind fun v23 => (kload1 h v23).bind fun v24 => (kfa 0 v3).bind fun v25 => (kload1 h v25).bind fun v26 => kold h fun h0 => (kF true HH fn.slices_Clone_string [v26] h).bind fun r => kr r fun v27 h => krs (rs ++ [⟨7, h0.length, h.length, ⟨[v26].flatMap (kborr h0), []⟩⟩]) fun rs => (kfa 1 v3).bind fun v28 => kold h fun h0 => (kload1 h v28).bind fun v29 => krs (rs ++ [⟨9, h0.length, h.length, ⟨kblk v28, []⟩⟩]) fun rs => (gfill (fun i => [(0, 1), (1, 1)][i]?) [.nils, (.int .i64 0)] [(0, v27), (1, v29)]).bind fun c => kagg c h fun v30 h => (gfill (fun i => some (i * 2, 2)) (zeros [.nils, (.int .i64 0)] 1) [(0, v30)]).bind fun c => kbs 1 2 c h fun v31 h => (kapp [.nils, (.int .i64 0)] 2 32 v24 v31 h).bind fun r => kr r fun v32 h => (knil v0).bind fun v33 => (kfa 0 v33).bind fun v34 => (kstore 1 h v34 v32).bind fun h => bif chk [(7, 9)] rs then G .nrm v0 v2 h else none
theorem g7_0_eq {R : Type} (k : Nat) (G : KT2 R) (rs : List Rec) (σ : GS) (h : Heap) : kgroupsD PP cfg NN HH 53 o7 [(7, 9)] [(none, [0, 1, 2, 3, 4, 5, 6, 7, 8, 9, 10, 11, 12, 13, 14, 15])] rs σ h (fun rs σ h => bif chk [(7, 9)] rs then G .nrm (σ 0) (σ 2) h else none) = g7_0 k G (σ 0) (σ 2) (σ 3) rs h := by kernel_rfl
@[simp] def n7 {R : Type} (k : Nat) (G : KT2 R) (v0 v2 v3 : GV) (h : Heap) : Option R := g7_0 k G v0 v2 v3 [] h
theorem n7_eq {R : Type} (k : Nat) (G : KT2 R) (σ : GS) (h : Heap) : KC k 53 c7 σ h (fun x σ h => G x (σ 0) (σ 2) h) = n7 k G (σ 0) (σ 2) (σ 3) h := (kregionD_eq (id := 4) (draw := true) (ops := o7) (gs := [(none, [0, 1, 2, 3, 4, 5, 6, 7, 8, 9, 10, 11, 12, 13, 14, 15])]) (bad := [(7, 9)]) (by kernel_rfl) (by kernel_rfl) (by kernel_rfl) (by kernel_rfl) (by kernel_rfl)).trans (g7_0_eq k G [] σ h)
@[simp] def n3 {R : Type} (k : Nat) (G : KT1 R) (v0 v2 v3 : GV) (h : Heap) : Option R := n7 k (fun x v0 v2 h => kx x (n4 k G v0 v2 h) (G x v2 h)) v0 v2 v3 h
theorem n3_eq {R : Type} (k : Nat) (G : KT1 R) (σ : GS) (h : Heap) : KC k 53 c3 σ h (fun x σ h => G x (σ 2) h) = n3 k G (σ 0) (σ 2) (σ 3) h := (kseq (b := c4) rfl (fun σ h => n4_eq k G σ h)).trans (n7_eq k (fun x v0 v2 h => kx x (n4 k G v0 v2 h) (G x v2 h)) σ h)
noncomputable def c8 : Code := cL c2
@[simp] def n2 {R : Type} (k : Nat) (G : KT1 R) (v0 v2 : GV) (h : Heap) : Option R := (knil v0).bind fun v11 => (kfa 0 v11).bind fun v12 => (kload1 h v12).bind fun v13 => (knil v0).bind fun v15 => (kloadA 3 h v15).bind fun v16 => (kN NN fn.impl_Chain_last [v16] h).bind fun v17 => (kia 2 v13 v17).bind fun v18 => (kloadA 2 h v18).bind fun v19 => kalloc [.nils, (.int .i64 0)] h fun v3 h => (kstore 2 h v3 v19).bind fun h => n3 k G v0 v2 v3 h
theorem n2_eq0 {R : Type} (k : Nat) (G : KT1 R) (σ : GS) (h : Heap) : KC k 53 c8 σ h (fun x σ h => kx x (n3 k G (σ 0) (σ 2) (σ 3) h) (G x (σ 2) h)) = n2 k G (σ 0) (σ 2) h := by kernel_rfl
theorem n2_eq {R : Type} (k : Nat) (G : KT1 R) (σ : GS) (h : Heap) : KC k 53 c2 σ h (fun x σ h => G x (σ 2) h) = n2 k G (σ 0) (σ 2) h := (kseq (b := c3) rfl (fun σ h => n3_eq k G σ h)).trans (n2_eq0 k G σ h)
noncomputable def c9 : Code := cL c1
@[simp] def n1 {R : Type} (k : Nat) (G : KT1 R) (v0 v2 : GV) (h : Heap) : Option R := (knil v0).bind fun v5 => (kfa 0 v5).bind fun v6 => (kload1 h v6).bind fun v7 => (klen v7).bind fun v8 => (kbin .eql v8 (.int .i64 5)).bind fun v9 => kcond v9 (G .ret (.bool false) h) (n2 k G v0 v2 h)
theorem n1_eq0 {R : Type} (k : Nat) (G : KT1 R) (σ : GS) (h : Heap) : KC k 53 c9 σ h (fun x σ h => kx x (n2 k G (σ 0) (σ 2) h) (G x (σ 2) h)) = n1 k G (σ 0) (σ 2) h := by kernel_rfl
theorem n1_eq {R : Type} (k : Nat) (G : KT1 R) (σ : GS) (h : Heap) : KC k 53 c1 σ h (fun x σ h => G x (σ 2) h) = n1 k G (σ 0) (σ 2) h := (kseq (b := c2) rfl (fun σ h => n2_eq k G σ h)).trans (n1_eq0 k G σ h)
noncomputable def c10 : Code := cL c0
@[simp] def n0 {R : Type} (k : Nat) (G : KT1 R) (v0 : GV) (h : Heap) : Option R := n1 k G v0 (.bool false) h
theorem n0_eq0 {R : Type} (k : Nat) (G : KT1 R) (σ : GS) (h : Heap) : KC k 53 c10 σ h (fun x σ h => kx x (n1 k G (σ 0) (σ 2) h) (G x (σ 2) h)) = n0 k G (σ 0) h := by kernel_rfl
theorem n0_eq {R : Type} (k : Nat) (G : KT1 R) (σ : GS) (h : Heap) : KC k 53 c0 σ h (fun x σ h => G x (σ 2) h) = n0 k G (σ 0) h := (kseq (b := c1) rfl (fun σ h => n1_eq k G σ h)).trans (n0_eq0 k G σ h)
def run {R : Type} (k : Nat) (a0 : GV) (h : Heap) (fin : GV → Heap → Option R) : Option R := n0 k (fun x v2 h => kend x (fin v2 h)) a0 h
theorem run_eq {R : Type} (k : Nat) (a0 : GV) (h : Heap) (fin : GV → Heap → Option R) : kfun PP cfg NN HH k fn.impl_Extend_1 [a0] h fin = run k a0 h fin := (kfun_eq (nt := 53) (c := c0) (show PP.funcs[fn.impl_Extend_1]? = some Try.f71 by kernel_rfl) (by kernel_rfl) (by kernel_rfl) (fun x σ h => by cases x <;> kernel_rfl)).trans (n0_eq k (fun x v2 h => kend x (fin v2 h)) _ h)
theorem gives {k : Nat} {a0 : GV} {h : Heap} {r : GV × Heap} (e : run k a0 h finH = some r) : HH fn.impl_Extend_1 [a0] h = some r := kω_of ((run_eq k a0 h finH).trans e)
end S.impl_Extend_1
end
end Go.Proofs.Ytopmnigfklgnkaa.G
