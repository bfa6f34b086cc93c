/- What these functions do, told for open values, out of the machine with continuations. Printed by a program of this session. -/
import Derived.Test.YtopmnigfklgnkaaSA
import Derived.KernelRfl
namespace Go.Proofs.Ytopmnigfklgnkaa.G
open Go.RowKit
set_option linter.unusedVariables false
set_option maxRecDepth 100000
noncomputable section
/-! spec_Reply -/
namespace S.spec_Reply
noncomputable def c0 : Code := bodyOf Try.f26
@[simp] def n0 {R : Type} (k : Nat) (G : KT2 R) (v0 v1 : GV) (h : Heap) : Option R := kbox v0 h fun v2 h => kalloc [.nils, .nils, .nils] h fun v4 h => (kloadA 3 h v2).bind fun v8 => (kN NN fn.spec_ChainOk [v8] h).bind fun v9 => (kun .not v9).bind fun v10 => kcond v10 ((gfill (fun i => [(0, 1), (1, 1), (2, 1)][i]?) [.nils, .nils, .nils] []).bind fun c => kagg c h fun v11 h => (kstore 3 h v4 v11).bind fun h => G .ret v4 (.bool false) h) ((kloadA 3 h v2).bind fun v12 => (kF false HH fn.spec_l17Copy [v12] h).bind fun r => kr r fun v13 h => kalloc [.nils, .nils, .nils] h fun v6 h => (kstore 3 h v6 v13).bind fun h => (HH fn.spec_l17Reply [v6, v1] h).bind fun r => kr r fun v15 h => (kloadA 3 h v6).bind fun v16 => (kstore 3 h v4 v16).bind fun h => G .ret v4 v15 h)
theorem n0_eq {R : Type} (k : Nat) (G : KT2 R) (σ : GS) (h : Heap) : KC k 18 c0 σ h (fun x σ h => G x (σ 4) (σ 5) h) = n0 k G (σ 0) (σ 1) h := by kernel_rfl
def run {R : Type} (k : Nat) (a0 : GV) (a1 : GV) (h : Heap) (fin : GV → Heap → Option R) : Option R := n0 k (fun x v4 v5 h => kend x ((kloadA 3 h v4).bind fun w4 => fin (.tup [w4, v5]) h)) a0 a1 h
theorem run_eq {R : Type} (k : Nat) (a0 : GV) (a1 : GV) (h : Heap) (fin : GV → Heap → Option R) : kfun PP cfg NN HH k fn.spec_Reply [a0, a1] h fin = run k a0 a1 h fin := (kfun_eq (nt := 18) (c := c0) (show PP.funcs[fn.spec_Reply]? = some Try.f26 by kernel_rfl) (by kernel_rfl) (by kernel_rfl) (fun x σ h => by cases x <;> kernel_rfl)).trans (n0_eq k (fun x v4 v5 h => kend x ((kloadA 3 h v4).bind fun w4 => fin (.tup [w4, v5]) h)) _ h)
theorem gives {k : Nat} {a0 : GV} {a1 : GV} {v : GV} (e : run k a0 a1 [] finN = some v) : NN fn.spec_Reply [a0, a1] = some v := nω_of (by kernel_rfl) ((run_eq k a0 a1 [] finN).trans e)
end S.spec_Reply
/-! impl_Reply -/
namespace S.impl_Reply
noncomputable def c0 : Code := bodyOf Try.f27
@[simp] def n0 {R : Type} (k : Nat) (G : KT2 R) (v0 v1 : GV) (h : Heap) : Option R := kbox v0 h fun v2 h => kbox v1 h fun v3 h => kalloc [.nils, .nils, .nils] h fun v4 h => (kloadA 3 h v2).bind fun v6 => (kF false HH fn.impl_changed [v6, (.fn fn.impl_Reply_1 [v3])] h).bind fun r => kr r fun v8 h => (kxt 0 v8).bind fun v9 => (kxt 1 v8).bind fun v10 => (kstore 3 h v4 v9).bind fun h => G .ret v4 v10 h
theorem n0_eq {R : Type} (k : Nat) (G : KT2 R) (σ : GS) (h : Heap) : KC k 11 c0 σ h (fun x σ h => G x (σ 4) (σ 5) h) = n0 k G (σ 0) (σ 1) h := by kernel_rfl
def run {R : Type} (k : Nat) (a0 : GV) (a1 : GV) (h : Heap) (fin : GV → Heap → Option R) : Option R := n0 k (fun x v4 v5 h => kend x ((kloadA 3 h v4).bind fun w4 => fin (.tup [w4, v5]) h)) a0 a1 h
theorem run_eq {R : Type} (k : Nat) (a0 : GV) (a1 : GV) (h : Heap) (fin : GV → Heap → Option R) : kfun PP cfg NN HH k fn.impl_Reply [a0, a1] h fin = run k a0 a1 h fin := (kfun_eq (nt := 11) (c := c0) (show PP.funcs[fn.impl_Reply]? = some Try.f27 by kernel_rfl) (by kernel_rfl) (by kernel_rfl) (fun x σ h => by cases x <;> kernel_rfl)).trans (n0_eq k (fun x v4 v5 h => kend x ((kloadA 3 h v4).bind fun w4 => fin (.tup [w4, v5]) h)) _ h)
theorem gives {k : Nat} {a0 : GV} {a1 : GV} {b : Nat} {q : GV × List (List GV)} (e : run k a0 a1 [] (finO b) = some q) : OO fn.impl_Reply [a0, a1] b = some q := oω_of ((run_eq k a0 a1 [] (finO b)).trans e)
end S.impl_Reply
/-! spec_l17Reply -/
namespace S.spec_l17Reply
noncomputable def c0 : Code := bodyOf Try.f78
noncomputable def c1 : Code := cR c0
noncomputable def c2 : Code := cR c1
noncomputable def c3 : Code := cR c2
noncomputable def c4 : Code := cR c3
noncomputable def c5 : Code := cR c4
noncomputable def c6 : Code := cR c5
@[simp] def n6 {R : Type} (k : Nat) (G : KT1 R) (h : Heap) : Option R := G .ret (.bool true) h
theorem n6_eq {R : Type} (k : Nat) (G : KT1 R) (σ : GS) (h : Heap) : KC k 79 c6 σ h (fun x σ h => G x (σ 4) h) = n6 k G h := by kernel_rfl
noncomputable def c7 : Code := cL c5
noncomputable def c8 : Code := cR c7
noncomputable def c9 : Code := cL c8
noncomputable def o9 : Array Oper := cO c9
@[simp] def g9_0 {R : Type} (k : Nat) (G : KT1 R) (v0 v1 v4 v5 : GV) (rs : List Rec) (h : Heap) : Option R := (knil v0).bind fun v62 => (kfa 2 v62).bind fun v63 => kold h fun h0 => (kload1 h v63).bind fun v64 => krs (rs ++ [⟨3, h0.length, h.length, ⟨kblk v63, []⟩⟩]) fun rs => (kbin .sub v1 (.int .i64 1)).bind fun v66 => (knil v0).bind fun v68 => (kfa 2 v68).bind fun v69 => (kload1 h v69).bind fun v70 => (kbin .sub v1 (.int .i64 1)).bind fun v72 => (kia 1 v70 v72).bind fun v73 => (kload1 h v73).bind fun v74 => (gfill (fun i => some (i * 1, 1)) (zeros [(.int .i64 0)] 1) [(0, v5)]).bind fun c => kbs 1 1 c h fun v76 h => kold h fun h0 => (kapp [(.int .i64 0)] 1 8 v74 v76 h).bind fun r => kr r fun v77 h => krs (rs ++ [⟨16, h0.length, h.length, ⟨kblk v74 ++ kblk v76, kblk v74⟩⟩]) fun rs => (kia 1 v64 v66).bind fun v78 => (kstore 1 h v78 v77).bind fun h => bif chk [(3, 16)] rs then G .nrm v4 h else none
theorem g9_0_eq {R : Type} (k : Nat) (G : KT1 R) (rs : List Rec) (σ : GS) (h : Heap) : kgroupsD PP cfg NN HH 79 o9 [(3, 16)] [(none, [0, 1, 2, 3, 4, 5, 6, 7, 8, 9, 10, 11, 12, 13, 14, 15, 16, 17, 18])] rs σ h (fun rs σ h => bif chk [(3, 16)] rs then G .nrm (σ 4) h else none) = g9_0 k G (σ 0) (σ 1) (σ 4) (σ 5) rs h := by kernel_rfl
@[simp] def n9 {R : Type} (k : Nat) (G : KT1 R) (v0 v1 v4 v5 : GV) (h : Heap) : Option R := g9_0 k G v0 v1 v4 v5 [] h
theorem n9_eq {R : Type} (k : Nat) (G : KT1 R) (σ : GS) (h : Heap) : KC k 79 c9 σ h (fun x σ h => G x (σ 4) h) = n9 k G (σ 0) (σ 1) (σ 4) (σ 5) h := (kregionD_eq (id := 7) (draw := true) (ops := o9) (gs := [(none, [0, 1, 2, 3, 4, 5, 6, 7, 8, 9, 10, 11, 12, 13, 14, 15, 16, 17, 18])]) (bad := [(3, 16)]) (by kernel_rfl) (by kernel_rfl) (by kernel_rfl) (by kernel_rfl) (by kernel_rfl)).trans (g9_0_eq k G [] σ h)
noncomputable def c10 : Code := cR c8
@[simp] def n10 {R : Type} (k : Nat) (G : KT1 R) (v4 : GV) (h : Heap) : Option R := G .nrm v4 h
theorem n10_eq {R : Type} (k : Nat) (G : KT1 R) (σ : GS) (h : Heap) : KC k 79 c10 σ h (fun x σ h => G x (σ 4) h) = n10 k G (σ 4) h := by kernel_rfl
@[simp] def n8 {R : Type} (k : Nat) (G : KT1 R) (v0 v1 v4 v5 v60 : GV) (h : Heap) : Option R := kcond v60 (n9 k G v0 v1 v4 v5 h) (n10 k G v4 h)
theorem n8_eq {R : Type} (k : Nat) (G : KT1 R) (σ : GS) (h : Heap) : KC k 79 c8 σ h (fun x σ h => G x (σ 4) h) = n8 k G (σ 0) (σ 1) (σ 4) (σ 5) (σ 60) h := (kcond_eq (a := c9) (b := c10) rfl (by rfl)).trans (congr (congrArg (kcond (σ 60)) (n9_eq k G σ h)) (n10_eq k G σ h))
noncomputable def c11 : Code := cL c7
@[simp] def n7 {R : Type} (k : Nat) (G : KT1 R) (v0 v1 v4 v5 : GV) (h : Heap) : Option R := (kbin .gtr v1 (.int .i64 0)).bind fun v60 => n8 k G v0 v1 v4 v5 v60 h
theorem n7_eq0 {R : Type} (k : Nat) (G : KT1 R) (σ : GS) (h : Heap) : KC k 79 c11 σ h (fun x σ h => kx x (n8 k G (σ 0) (σ 1) (σ 4) (σ 5) (σ 60) h) (G x (σ 4) h)) = n7 k G (σ 0) (σ 1) (σ 4) (σ 5) h := by kernel_rfl
theorem n7_eq {R : Type} (k : Nat) (G : KT1 R) (σ : GS) (h : Heap) : KC k 79 c7 σ h (fun x σ h => G x (σ 4) h) = n7 k G (σ 0) (σ 1) (σ 4) (σ 5) h := (kseq (b := c8) rfl (fun σ h => n8_eq k G σ h)).trans (n7_eq0 k G σ h)
@[simp] def n5 {R : Type} (k : Nat) (G : KT1 R) (v0 v1 v4 v5 : GV) (h : Heap) : Option R := n7 k (fun x v4 h => kx x (n6 k G h) (G x v4 h)) v0 v1 v4 v5 h
theorem n5_eq {R : Type} (k : Nat) (G : KT1 R) (σ : GS) (h : Heap) : KC k 79 c5 σ h (fun x σ h => G x (σ 4) h) = n5 k G (σ 0) (σ 1) (σ 4) (σ 5) h := (kseq (b := c6) rfl (fun σ h => n6_eq k G σ h)).trans (n7_eq k (fun x v4 h => kx x (n6 k G h) (G x v4 h)) σ h)
noncomputable def c12 : Code := cL c4
@[simp] def n4 {R : Type} (k : Nat) (G : KT1 R) (v0 v1 v4 v5 : GV) (h : Heap) : Option R := (knil v0).bind fun v52 => (kfa 0 v52).bind fun v53 => (kload1 h v53).bind fun v54 => (kia 2 v54 v1).bind fun v57 => (kfa 1 v57).bind fun v58 => (kstore 1 h v58 v5).bind fun h => n5 k G v0 v1 v4 v5 h
theorem n4_eq0 {R : Type} (k : Nat) (G : KT1 R) (σ : GS) (h : Heap) : KC k 79 c12 σ h (fun x σ h => kx x (n5 k G (σ 0) (σ 1) (σ 4) (σ 5) h) (G x (σ 4) h)) = n4 k G (σ 0) (σ 1) (σ 4) (σ 5) h := by kernel_rfl
theorem n4_eq {R : Type} (k : Nat) (G : KT1 R) (σ : GS) (h : Heap) : KC k 79 c4 σ h (fun x σ h => G x (σ 4) h) = n4 k G (σ 0) (σ 1) (σ 4) (σ 5) h := (kseq (b := c5) rfl (fun σ h => n5_eq k G σ h)).trans (n4_eq0 k G σ h)
noncomputable def c13 : Code := cL c3
noncomputable def o13 : Array Oper := cO c13
@[simp] def g13_0 {R : Type} (k : Nat) (G : KT4 R) (v0 v1 v4 v5 : GV) (rs : List Rec) (h : Heap) : Option R := (knil v0).bind fun v36 => (kfa 2 v36).bind fun v37 => kold h fun h0 => (kload1 h v37).bind fun v38 => krs (rs ++ [⟨3, h0.length, h.length, ⟨kblk v37, []⟩⟩]) fun rs => kold h fun h0 => krs (rs ++ [⟨5, h0.length, h.length, ⟨[], []⟩⟩]) fun rs => (knil v0).bind fun v42 => (kfa 2 v42).bind fun v43 => kold h fun h0 => (kload1 h v43).bind fun v44 => krs (rs ++ [⟨9, h0.length, h.length, ⟨kblk v43, []⟩⟩]) fun rs => (kia 1 v44 v1).bind fun v46 => kold h fun h0 => (kload1 h v46).bind fun v47 => krs (rs ++ [⟨12, h0.length, h.length, ⟨kblk v46, []⟩⟩]) fun rs => (ksl 1 v47 (some (.int .i64 1)) none none).bind fun v48 => kold h fun h0 => (kapp [(.int .i64 0)] 1 8 .emp v48 h).bind fun r => kr r fun v49 h => krs (rs ++ [⟨14, h0.length, h.length, ⟨kblk .emp ++ kblk v48, kblk .emp⟩⟩]) fun rs => (kia 1 v38 v1).bind fun v50 => (kstore 1 h v50 v49).bind fun h => bif chk [(3, 14), (5, 9), (5, 12)] rs then G .nrm v0 v1 v4 v5 h else none
theorem g13_0_eq {R : Type} (k : Nat) (G : KT4 R) (rs : List Rec) (σ : GS) (h : Heap) : kgroupsD PP cfg NN HH 79 o13 [(3, 14), (5, 9), (5, 12)] [(none, [0, 1, 2, 3, 4, 5, 6, 7, 8, 9, 10, 11, 12, 13, 14, 15, 16])] rs σ h (fun rs σ h => bif chk [(3, 14), (5, 9), (5, 12)] rs then G .nrm (σ 0) (σ 1) (σ 4) (σ 5) h else none) = g13_0 k G (σ 0) (σ 1) (σ 4) (σ 5) rs h := by kernel_rfl
@[simp] def n13 {R : Type} (k : Nat) (G : KT4 R) (v0 v1 v4 v5 : GV) (h : Heap) : Option R := g13_0 k G v0 v1 v4 v5 [] h
theorem n13_eq {R : Type} (k : Nat) (G : KT4 R) (σ : GS) (h : Heap) : KC k 79 c13 σ h (fun x σ h => G x (σ 0) (σ 1) (σ 4) (σ 5) h) = n13 k G (σ 0) (σ 1) (σ 4) (σ 5) h := (kregionD_eq (id := 4) (draw := true) (ops := o13) (gs := [(none, [0, 1, 2, 3, 4, 5, 6, 7, 8, 9, 10, 11, 12, 13, 14, 15, 16])]) (bad := [(3, 14), (5, 9), (5, 12)]) (by kernel_rfl) (by kernel_rfl) (by kernel_rfl) (by kernel_rfl) (by kernel_rfl)).trans (g13_0_eq k G [] σ h)
@[simp] def n3 {R : Type} (k : Nat) (G : KT1 R) (v0 v1 v4 v5 : GV) (h : Heap) : Option R := n13 k (fun x v0 v1 v4 v5 h => kx x (n4 k G v0 v1 v4 v5 h) (G x v4 h)) v0 v1 v4 v5 h
theorem n3_eq {R : Type} (k : Nat) (G : KT1 R) (σ : GS) (h : Heap) : KC k 79 c3 σ h (fun x σ h => G x (σ 4) h) = n3 k G (σ 0) (σ 1) (σ 4) (σ 5) h := (kseq (b := c4) rfl (fun σ h => n4_eq k G σ h)).trans (n13_eq k (fun x v0 v1 v4 v5 h => kx x (n4 k G v0 v1 v4 v5 h) (G x v4 h)) σ h)
noncomputable def c14 : Code := cL c2
@[simp] def n2 {R : Type} (k : Nat) (G : KT1 R) (v0 v1 v4 : GV) (h : Heap) : Option R := (knil v0).bind fun v27 => (kfa 2 v27).bind fun v28 => (kload1 h v28).bind fun v29 => (kia 1 v29 v1).bind fun v31 => (kload1 h v31).bind fun v32 => (kia 1 v32 (.int .i64 0)).bind fun v33 => (kload1 h v33).bind fun v34 => n3 k G v0 v1 v4 v34 h
theorem n2_eq0 {R : Type} (k : Nat) (G : KT1 R) (σ : GS) (h : Heap) : KC k 79 c14 σ h (fun x σ h => kx x (n3 k G (σ 0) (σ 1) (σ 4) (σ 5) h) (G x (σ 4) h)) = n2 k G (σ 0) (σ 1) (σ 4) h := by kernel_rfl
theorem n2_eq {R : Type} (k : Nat) (G : KT1 R) (σ : GS) (h : Heap) : KC k 79 c2 σ h (fun x σ h => G x (σ 4) h) = n2 k G (σ 0) (σ 1) (σ 4) h := (kseq (b := c3) rfl (fun σ h => n3_eq k G σ h)).trans (n2_eq0 k G σ h)
noncomputable def c15 : Code := cL c1
noncomputable def c16 : Code := cR c15
@[simp] def n16 {R : Type} (k : Nat) (G : KT3 R) (v0 v1 v4 v25 : GV) (h : Heap) : Option R := kcond v25 (G .ret v0 v1 (.bool false) h) (G .nrm v0 v1 v4 h)
theorem n16_eq {R : Type} (k : Nat) (G : KT3 R) (σ : GS) (h : Heap) : KC k 79 c16 σ h (fun x σ h => G x (σ 0) (σ 1) (σ 4) h) = n16 k G (σ 0) (σ 1) (σ 4) (σ 25) h := by kernel_rfl
noncomputable def c17 : Code := cL c15
noncomputable def o17 : Array Oper := cO c17
@[simp] def g17_2 {R : Type} (k : Nat) (G : KT4 R) (v0 v1 v4 v15 v24 : GV) (h : Heap) : Option R := (kpick v15 (.bool true) v24).bind fun v25 => G .nrm v0 v1 v4 v25 h
theorem g17_2_eq {R : Type} (k : Nat) (G : KT4 R) (σ : GS) (h : Heap) : kgroups PP cfg NN HH 79 o17 [(none, [19])] σ h (fun σ h => G .nrm (σ 0) (σ 1) (σ 4) (σ 25) h) = g17_2 k G (σ 0) (σ 1) (σ 4) (σ 15) (σ 24) h := by kernel_rfl
@[simp] def g17_1 {R : Type} (k : Nat) (G : KT4 R) (v0 v1 v4 v15 : GV) (h : Heap) : Option R := bif tr false v15 then (knil v0).bind fun v17 => (kfa 2 v17).bind fun v18 => (kload1 h v18).bind fun v19 => (kia 1 v19 v1).bind fun v21 => (kload1 h v21).bind fun v22 => (klen v22).bind fun v23 => (kbin .eql v23 (.int .i64 0)).bind fun v24 => g17_2 k G v0 v1 v4 v15 v24 h else g17_2 k G v0 v1 v4 v15 .un h
theorem g17_1_eq0 {R : Type} (k : Nat) (G : KT4 R) (σ : GS) (h : Heap) : kgroup1 PP cfg NN HH 79 o17 (some (9, false), [10, 11, 12, 13, 14, 15, 16, 17, 18]) σ h (fun σ h => g17_2 k G (σ 0) (σ 1) (σ 4) (σ 15) (σ 24) h) = g17_1 k G (σ 0) (σ 1) (σ 4) (σ 15) h := by kernel_rfl
theorem g17_1_eq {R : Type} (k : Nat) (G : KT4 R) (σ : GS) (h : Heap) : kgroups PP cfg NN HH 79 o17 [(some (9, false), [10, 11, 12, 13, 14, 15, 16, 17, 18]), (none, [19])] σ h (fun σ h => G .nrm (σ 0) (σ 1) (σ 4) (σ 25) h) = g17_1 k G (σ 0) (σ 1) (σ 4) (σ 15) h := (kgroups_cons (fun σ h => g17_2_eq k G σ h)).trans (g17_1_eq0 k G σ h)
@[simp] def g17_0 {R : Type} (k : Nat) (G : KT4 R) (v0 v1 v4 : GV) (h : Heap) : Option R := (knil v0).bind fun v8 => (kfa 2 v8).bind fun v9 => (kload1 h v9).bind fun v10 => (klen v10).bind fun v11 => (kbin .sub v11 (.int .i64 1)).bind fun v12 => (kN NN fn.spec_l1In [v1, (.int .i64 0), v12] h).bind fun v13 => (kun .not v13).bind fun v14 => g17_1 k G v0 v1 v4 v14 h
theorem g17_0_eq0 {R : Type} (k : Nat) (G : KT4 R) (σ : GS) (h : Heap) : kgroup1 PP cfg NN HH 79 o17 (none, [0, 1, 2, 3, 4, 5, 6, 7, 8, 9]) σ h (fun σ h => g17_1 k G (σ 0) (σ 1) (σ 4) (σ 15) h) = g17_0 k G (σ 0) (σ 1) (σ 4) h := by kernel_rfl
theorem g17_0_eq {R : Type} (k : Nat) (G : KT4 R) (σ : GS) (h : Heap) : kgroups PP cfg NN HH 79 o17 [(none, [0, 1, 2, 3, 4, 5, 6, 7, 8, 9]), (some (9, false), [10, 11, 12, 13, 14, 15, 16, 17, 18]), (none, [19])] σ h (fun σ h => G .nrm (σ 0) (σ 1) (σ 4) (σ 25) h) = g17_0 k G (σ 0) (σ 1) (σ 4) h := (kgroups_cons (fun σ h => g17_1_eq k G σ h)).trans (g17_0_eq0 k G σ h)
@[simp] def n17 {R : Type} (k : Nat) (G : KT4 R) (v0 v1 v4 : GV) (h : Heap) : Option R := g17_0 k G v0 v1 v4 h
theorem n17_eq {R : Type} (k : Nat) (G : KT4 R) (σ : GS) (h : Heap) : KC k 79 c17 σ h (fun x σ h => G x (σ 0) (σ 1) (σ 4) (σ 25) h) = n17 k G (σ 0) (σ 1) (σ 4) h := (kregion_eq (id := 1) (draw := false) (ops := o17) (gs := [(none, [0, 1, 2, 3, 4, 5, 6, 7, 8, 9]), (some (9, false), [10, 11, 12, 13, 14, 15, 16, 17, 18]), (none, [19])]) (by kernel_rfl) (by kernel_rfl) (by kernel_rfl)).trans (g17_0_eq k G σ h)
@[simp] def n15 {R : Type} (k : Nat) (G : KT3 R) (v0 v1 v4 : GV) (h : Heap) : Option R := n17 k (fun x v0 v1 v4 v25 h => kx x (n16 k G v0 v1 v4 v25 h) (G x v0 v1 v4 h)) v0 v1 v4 h
theorem n15_eq {R : Type} (k : Nat) (G : KT3 R) (σ : GS) (h : Heap) : KC k 79 c15 σ h (fun x σ h => G x (σ 0) (σ 1) (σ 4) h) = n15 k G (σ 0) (σ 1) (σ 4) h := (kseq (b := c16) rfl (fun σ h => n16_eq k G σ h)).trans (n17_eq k (fun x v0 v1 v4 v25 h => kx x (n16 k G v0 v1 v4 v25 h) (G x v0 v1 v4 h)) σ h)
@[simp] def n1 {R : Type} (k : Nat) (G : KT1 R) (v0 v1 v4 : GV) (h : Heap) : Option R := n15 k (fun x v0 v1 v4 h => kx x (n2 k G v0 v1 v4 h) (G x v4 h)) v0 v1 v4 h
theorem n1_eq {R : Type} (k : Nat) (G : KT1 R) (σ : GS) (h : Heap) : KC k 79 c1 σ h (fun x σ h => G x (σ 4) h) = n1 k G (σ 0) (σ 1) (σ 4) h := (kseq (b := c2) rfl (fun σ h => n2_eq k G σ h)).trans (n15_eq k (fun x v0 v1 v4 h => kx x (n2 k G v0 v1 v4 h) (G x v4 h)) σ h)
noncomputable def c18 : Code := cL c0
@[simp] def n0 {R : Type} (k : Nat) (G : KT1 R) (v0 v1 : GV) (h : Heap) : Option R := n1 k G v0 v1 (.bool false) h
theorem n0_eq0 {R : Type} (k : Nat) (G : KT1 R) (σ : GS) (h : Heap) : KC k 79 c18 σ h (fun x σ h => kx x (n1 k G (σ 0) (σ 1) (σ 4) h) (G x (σ 4) h)) = n0 k G (σ 0) (σ 1) h := by kernel_rfl
theorem n0_eq {R : Type} (k : Nat) (G : KT1 R) (σ : GS) (h : Heap) : KC k 79 c0 σ h (fun x σ h => G x (σ 4) h) = n0 k G (σ 0) (σ 1) h := (kseq (b := c1) rfl (fun σ h => n1_eq k G σ h)).trans (n0_eq0 k G σ h)
def run {R : Type} (k : Nat) (a0 : GV) (a1 : GV) (h : Heap) (fin : GV → Heap → Option R) : Option R := n0 k (fun x v4 h => kend x (fin v4 h)) a0 a1 h
theorem run_eq {R : Type} (k : Nat) (a0 : GV) (a1 : GV) (h : Heap) (fin : GV → Heap → Option R) : kfun PP cfg NN HH k fn.spec_l17Reply [a0, a1] h fin = run k a0 a1 h fin := (kfun_eq (nt := 79) (c := c0) (show PP.funcs[fn.spec_l17Reply]? = some Try.f78 by kernel_rfl) (by kernel_rfl) (by kernel_rfl) (fun x σ h => by cases x <;> kernel_rfl)).trans (n0_eq k (fun x v4 h => kend x (fin v4 h)) _ h)
theorem gives {k : Nat} {a0 : GV} {a1 : GV} {h : Heap} {r : GV × Heap} (e : run k a0 a1 h finH = some r) : HH fn.spec_l17Reply [a0, a1] h = some r := kω_of ((run_eq k a0 a1 h finH).trans e)
end S.spec_l17Reply
/-! impl_Reply_1 -/
namespace S.impl_Reply_1
noncomputable def c0 : Code := bodyOf Try.f79
noncomputable def c1 : Code := cR c0
noncomputable def c2 : Code := cR c1
@[simp] def n2 {R : Type} (k : Nat) (G : KT1 R) (v0 v1 v3 : GV) (h : Heap) : Option R := (knil v0).bind fun v24 => (kfa 0 v24).bind fun v25 => (kload1 h v25).bind fun v26 => (kload1 h v1).bind fun v27 => (knil v0).bind fun v29 => (kfa 2 v29).bind fun v30 => (kload1 h v30).bind fun v31 => (kload1 h v1).bind fun v32 => (kia 1 v31 v32).bind fun v33 => (kload1 h v33).bind fun v34 => (kia 1 v34 (.int .i64 0)).bind fun v35 => (kload1 h v35).bind fun v36 => (kia 2 v26 v27).bind fun v37 => (kfa 1 v37).bind fun v38 => (kstore 1 h v38 v36).bind fun h => (knil v0).bind fun v40 => (kfa 2 v40).bind fun v41 => (kload1 h v41).bind fun v42 => (kload1 h v1).bind fun v43 => (knil v0).bind fun v45 => (kfa 2 v45).bind fun v46 => (kload1 h v46).bind fun v47 => (kload1 h v1).bind fun v48 => (kia 1 v47 v48).bind fun v49 => (kload1 h v49).bind fun v50 => (ksl 1 v50 (some (.int .i64 1)) none none).bind fun v51 => (kia 1 v42 v43).bind fun v52 => (kstore 1 h v52 v51).bind fun h => (kload1 h v1).bind fun v54 => (HH fn.impl_Chain_tell [v0, v54] h).bind fun r => kr r fun v55 h => G .ret (.bool true) h
theorem n2_eq {R : Type} (k : Nat) (G : KT1 R) (σ : GS) (h : Heap) : KC k 56 c2 σ h (fun x σ h => G x (σ 3) h) = n2 k G (σ 0) (σ 1) (σ 3) h := by kernel_rfl
noncomputable def c3 : Code := cL c1
noncomputable def c4 : Code := cR c3
@[simp] def n4 {R : Type} (k : Nat) (G : KT3 R) (v0 v1 v3 v22 : GV) (h : Heap) : Option R := kcond v22 (G .ret v0 v1 (.bool false) h) (G .nrm v0 v1 v3 h)
theorem n4_eq {R : Type} (k : Nat) (G : KT3 R) (σ : GS) (h : Heap) : KC k 56 c4 σ h (fun x σ h => G x (σ 0) (σ 1) (σ 3) h) = n4 k G (σ 0) (σ 1) (σ 3) (σ 22) h := by kernel_rfl
noncomputable def c5 : Code := cL c3
noncomputable def o5 : Array Oper := cO c5
@[simp] def g5_2 {R : Type} (k : Nat) (G : KT4 R) (v0 v1 v3 v12 v21 : GV) (h : Heap) : Option R := (kpick v12 (.bool true) v21).bind fun v22 => G .nrm v0 v1 v3 v22 h
theorem g5_2_eq {R : Type} (k : Nat) (G : KT4 R) (σ : GS) (h : Heap) : kgroups PP cfg NN HH 56 o5 [(none, [18])] σ h (fun σ h => G .nrm (σ 0) (σ 1) (σ 3) (σ 22) h) = g5_2 k G (σ 0) (σ 1) (σ 3) (σ 12) (σ 21) h := by kernel_rfl
@[simp] def g5_1 {R : Type} (k : Nat) (G : KT4 R) (v0 v1 v3 v12 : GV) (h : Heap) : Option R := bif tr false v12 then (knil v0).bind fun v14 => (kfa 2 v14).bind fun v15 => (kload1 h v15).bind fun v16 => (kload1 h v1).bind fun v17 => (kia 1 v16 v17).bind fun v18 => (kload1 h v18).bind fun v19 => (klen v19).bind fun v20 => (kbin .eql v20 (.int .i64 0)).bind fun v21 => g5_2 k G v0 v1 v3 v12 v21 h else g5_2 k G v0 v1 v3 v12 .un h
theorem g5_1_eq0 {R : Type} (k : Nat) (G : KT4 R) (σ : GS) (h : Heap) : kgroup1 PP cfg NN HH 56 o5 (some (8, false), [9, 10, 11, 12, 13, 14, 15, 16, 17]) σ h (fun σ h => g5_2 k G (σ 0) (σ 1) (σ 3) (σ 12) (σ 21) h) = g5_1 k G (σ 0) (σ 1) (σ 3) (σ 12) h := by kernel_rfl
theorem g5_1_eq {R : Type} (k : Nat) (G : KT4 R) (σ : GS) (h : Heap) : kgroups PP cfg NN HH 56 o5 [(some (8, false), [9, 10, 11, 12, 13, 14, 15, 16, 17]), (none, [18])] σ h (fun σ h => G .nrm (σ 0) (σ 1) (σ 3) (σ 22) h) = g5_1 k G (σ 0) (σ 1) (σ 3) (σ 12) h := (kgroups_cons (fun σ h => g5_2_eq k G σ h)).trans (g5_1_eq0 k G σ h)
@[simp] def g5_0 {R : Type} (k : Nat) (G : KT4 R) (v0 v1 v3 : GV) (h : Heap) : Option R := (kload1 h v1).bind fun v4 => (knil v0).bind fun v6 => (kloadA 3 h v6).bind fun v7 => (kN NN fn.impl_Chain_last [v7] h).bind fun v8 => (kbin .sub v8 (.int .i64 1)).bind fun v9 => (kN NN fn.impl_in [v4, (.int .i64 0), v9] h).bind fun v10 => (kun .not v10).bind fun v11 => g5_1 k G v0 v1 v3 v11 h
theorem g5_0_eq0 {R : Type} (k : Nat) (G : KT4 R) (σ : GS) (h : Heap) : kgroup1 PP cfg NN HH 56 o5 (none, [0, 1, 2, 3, 4, 5, 6, 7, 8]) σ h (fun σ h => g5_1 k G (σ 0) (σ 1) (σ 3) (σ 12) h) = g5_0 k G (σ 0) (σ 1) (σ 3) h := by kernel_rfl
theorem g5_0_eq {R : Type} (k : Nat) (G : KT4 R) (σ : GS) (h : Heap) : kgroups PP cfg NN HH 56 o5 [(none, [0, 1, 2, 3, 4, 5, 6, 7, 8]), (some (8, false), [9, 10, 11, 12, 13, 14, 15, 16, 17]), (none, [18])] σ h (fun σ h => G .nrm (σ 0) (σ 1) (σ 3) (σ 22) h) = g5_0 k G (σ 0) (σ 1) (σ 3) h := (kgroups_cons (fun σ h => g5_1_eq k G σ h)).trans (g5_0_eq0 k G σ h)
@[simp] def n5 {R : Type} (k : Nat) (G : KT4 R) (v0 v1 v3 : GV) (h : Heap) : Option R := g5_0 k G v0 v1 v3 h
theorem n5_eq {R : Type} (k : Nat) (G : KT4 R) (σ : GS) (h : Heap) : KC k 56 c5 σ h (fun x σ h => G x (σ 0) (σ 1) (σ 3) (σ 22) h) = n5 k G (σ 0) (σ 1) (σ 3) h := (kregion_eq (id := 1) (draw := true) (ops := o5) (gs := [(none, [0, 1, 2, 3, 4, 5, 6, 7, 8]), (some (8, false), [9, 10, 11, 12, 13, 14, 15, 16, 17]), (none, [18])]) (by kernel_rfl) (by kernel_rfl) (by kernel_rfl)).trans (g5_0_eq k G σ h)
@[simp] def n3 {R : Type} (k : Nat) (G : KT3 R) (v0 v1 v3 : GV) (h : Heap) : Option R := n5 k (fun x v0 v1 v3 v22 h => kx x (n4 k G v0 v1 v3 v22 h) (G x v0 v1 v3 h)) v0 v1 v3 h
theorem n3_eq {R : Type} (k : Nat) (G : KT3 R) (σ : GS) (h : Heap) : KC k 56 c3 σ h (fun x σ h => G x (σ 0) (σ 1) (σ 3) h) = n3 k G (σ 0) (σ 1) (σ 3) h := (kseq (b := c4) rfl (fun σ h => n4_eq k G σ h)).trans (n5_eq k (fun x v0 v1 v3 v22 h => kx x (n4 k G v0 v1 v3 v22 h) (G x v0 v1 v3 h)) σ h)
@[simp] def n1 {R : Type} (k : Nat) (G : KT1 R) (v0 v1 v3 : GV) (h : Heap) : Option R := n3 k (fun x v0 v1 v3 h => kx x (n2 k G v0 v1 v3 h) (G x v3 h)) v0 v1 v3 h
theorem n1_eq {R : Type} (k : Nat) (G : KT1 R) (σ : GS) (h : Heap) : KC k 56 c1 σ h (fun x σ h => G x (σ 3) h) = n1 k G (σ 0) (σ 1) (σ 3) h := (kseq (b := c2) rfl (fun σ h => n2_eq k G σ h)).trans (n3_eq k (fun x v0 v1 v3 h => kx x (n2 k G v0 v1 v3 h) (G x v3 h)) σ h)
noncomputable def c6 : Code := cL c0
@[simp] def n0 {R : Type} (k : Nat) (G : KT1 R) (v0 v1 : GV) (h : Heap) : Option R := n1 k G v0 v1 (.bool false) h
theorem n0_eq0 {R : Type} (k : Nat) (G : KT1 R) (σ : GS) (h : Heap) : KC k 56 c6 σ h (fun x σ h => kx x (n1 k G (σ 0) (σ 1) (σ 3) h) (G x (σ 3) h)) = n0 k G (σ 0) (σ 1) h := by kernel_rfl
theorem n0_eq {R : Type} (k : Nat) (G : KT1 R) (σ : GS) (h : Heap) : KC k 56 c0 σ h (fun x σ h => G x (σ 3) h) = n0 k G (σ 0) (σ 1) h := (kseq (b := c1) rfl (fun σ h => n1_eq k G σ h)).trans (n0_eq0 k G σ h)
def run {R : Type} (k : Nat) (a0 : GV) (a1 : GV) (h : Heap) (fin : GV → Heap → Option R) : Option R := n0 k (fun x v3 h => kend x (fin v3 h)) a0 a1 h
theorem run_eq {R : Type} (k : Nat) (a0 : GV) (a1 : GV) (h : Heap) (fin : GV → Heap → Option R) : kfun PP cfg NN HH k fn.impl_Reply_1 [a0, a1] h fin = run k a0 a1 h fin := (kfun_eq (nt := 56) (c := c0) (show PP.funcs[fn.impl_Reply_1]? = some Try.f79 by kernel_rfl) (by kernel_rfl) (by kernel_rfl) (fun x σ h => by cases x <;> kernel_rfl)).trans (n0_eq k (fun x v3 h => kend x (fin v3 h)) _ h)
theorem gives {k : Nat} {a0 : GV} {a1 : GV} {h : Heap} {r : GV × Heap} (e : run k a0 a1 h finH = some r) : HH fn.impl_Reply_1 [a0, a1] h = some r := kω_of ((run_eq k a0 a1 h finH).trans e)
end S.impl_Reply_1
/-! impl_Chain_tell -/
namespace S.impl_Chain_tell
noncomputable def c0 : Code := bodyOf Try.f81
noncomputable def c1 : Code := cR c0
noncomputable def c2 : Code := cL c1
noncomputable def o2 : Array Oper := cO c2
@[simp] def g2_0 {R : Type} (k : Nat) (G : KT0 R) (v0 v1 : GV) (rs : List Rec) (h : Heap) : Option R := (knil v0).bind fun v7 => (kfa 2 v7).bind fun v8 => kold h fun h0 => (kload1 h v8).bind fun v9 => krs (rs ++ [⟨3, h0.length, h.length, ⟨kblk v8, []⟩⟩]) fun rs => (kbin .sub v1 (.int .i64 1)).bind fun v11 => (knil v0).bind fun v13 => (kfa 2 v13).bind fun v14 => (kload1 h v14).bind fun v15 => (kbin .sub v1 (.int .i64 1)).bind fun v17 => (kia 1 v15 v17).bind fun v18 => (kload1 h v18).bind fun v19 => (knil v0).bind fun v21 => (kfa 0 v21).bind fun v22 => (kload1 h v22).bind fun v23 => (kia 2 v23 v1).bind fun v25 => (kfa 1 v25).bind fun v26 => (kload1 h v26).bind fun v27 => (gfill (fun i => some (i * 1, 1)) (zeros [(.int .i64 0)] 1) [(0, v27)]).bind fun c => kbs 1 1 c h fun v28 h => kold h fun h0 => (kapp [(.int .i64 0)] 1 8 v19 v28 h).bind fun r => kr r fun v29 h => krs (rs ++ [⟨23, h0.length, h.length, ⟨kblk v19 ++ kblk v28, kblk v19⟩⟩]) fun rs => (kia 1 v9 v11).bind fun v30 => (kstore 1 h v30 v29).bind fun h => bif chk [(3, 23)] rs then G .nrm h else none
theorem g2_0_eq {R : Type} (k : Nat) (G : KT0 R) (rs : List Rec) (σ : GS) (h : Heap) : kgroupsD PP cfg NN HH 31 o2 [(3, 23)] [(none, [0, 1, 2, 3, 4, 5, 6, 7, 8, 9, 10, 11, 12, 13, 14, 15, 16, 17, 18, 19, 20, 21, 22, 23, 24, 25])] rs σ h (fun rs σ h => bif chk [(3, 23)] rs then G .nrm h else none) = g2_0 k G (σ 0) (σ 1) rs h := by kernel_rfl
@[simp] def n2 {R : Type} (k : Nat) (G : KT0 R) (v0 v1 : GV) (h : Heap) : Option R := g2_0 k G v0 v1 [] h
theorem n2_eq {R : Type} (k : Nat) (G : KT0 R) (σ : GS) (h : Heap) : KC k 31 c2 σ h (fun x σ h => G x h) = n2 k G (σ 0) (σ 1) h := (kregionD_eq (id := 1) (draw := true) (ops := o2) (gs := [(none, [0, 1, 2, 3, 4, 5, 6, 7, 8, 9, 10, 11, 12, 13, 14, 15, 16, 17, 18, 19, 20, 21, 22, 23, 24, 25])]) (bad := [(3, 23)]) (by kernel_rfl) (by kernel_rfl) (by kernel_rfl) (by kernel_rfl) (by kernel_rfl)).trans (g2_0_eq k G [] σ h)
noncomputable def c3 : Code := cR c1
@[simp] def n3 {R : Type} (k : Nat) (G : KT0 R) (h : Heap) : Option R := G .nrm h
theorem n3_eq {R : Type} (k : Nat) (G : KT0 R) (σ : GS) (h : Heap) : KC k 31 c3 σ h (fun x σ h => G x h) = n3 k G h := by kernel_rfl
@[simp] def n1 {R : Type} (k : Nat) (G : KT0 R) (v0 v1 v5 : GV) (h : Heap) : Option R := kcond v5 (n2 k G v0 v1 h) (n3 k G h)
theorem n1_eq {R : Type} (k : Nat) (G : KT0 R) (σ : GS) (h : Heap) : KC k 31 c1 σ h (fun x σ h => G x h) = n1 k G (σ 0) (σ 1) (σ 5) h := (kcond_eq (a := c2) (b := c3) rfl (by rfl)).trans (congr (congrArg (kcond (σ 5)) (n2_eq k G σ h)) (n3_eq k G σ h))
noncomputable def c4 : Code := cL c0
@[simp] def n0 {R : Type} (k : Nat) (G : KT0 R) (v0 v1 : GV) (h : Heap) : Option R := (kbin .gtr v1 (.int .i64 0)).bind fun v5 => n1 k G v0 v1 v5 h
theorem n0_eq0 {R : Type} (k : Nat) (G : KT0 R) (σ : GS) (h : Heap) : KC k 31 c4 σ h (fun x σ h => kx x (n1 k G (σ 0) (σ 1) (σ 5) h) (G x h)) = n0 k G (σ 0) (σ 1) h := by kernel_rfl
theorem n0_eq {R : Type} (k : Nat) (G : KT0 R) (σ : GS) (h : Heap) : KC k 31 c0 σ h (fun x σ h => G x h) = n0 k G (σ 0) (σ 1) h := (kseq (b := c1) rfl (fun σ h => n1_eq k G σ h)).trans (n0_eq0 k G σ h)
def run {R : Type} (k : Nat) (a0 : GV) (a1 : GV) (h : Heap) (fin : GV → Heap → Option R) : Option R := n0 k (fun x h => kend x (fin (.tup []) h)) a0 a1 h
theorem run_eq {R : Type} (k : Nat) (a0 : GV) (a1 : GV) (h : Heap) (fin : GV → Heap → Option R) : kfun PP cfg NN HH k fn.impl_Chain_tell [a0, a1] h fin = run k a0 a1 h fin := (kfun_eq (nt := 31) (c := c0) (show PP.funcs[fn.impl_Chain_tell]? = some Try.f81 by kernel_rfl) (by kernel_rfl) (by kernel_rfl) (fun x σ h => by cases x <;> kernel_rfl)).trans (n0_eq k (fun x h => kend x (fin (.tup []) h)) _ h)
theorem gives {k : Nat} {a0 : GV} {a1 : GV} {h : Heap} {r : GV × Heap} (e : run k a0 a1 h finH = some r) : HH fn.impl_Chain_tell [a0, a1] h = some r := kω_of ((run_eq k a0 a1 h finH).trans e)
end S.impl_Chain_tell
end
end Go.Proofs.Ytopmnigfklgnkaa.G
