/- What these functions do, told for open values, out of the machine with continuations. Printed by a program of this session. -/
import Derived.Test.YtlbnioapepelnaaZ9f16b40d
import Derived.KernelRfl
set_option linter.unusedVariables false
set_option maxRecDepth 100000
namespace Go.Proofs.Ytlbnioapepelnaa.G
open Go.RowKit
noncomputable section
variable {R : Type} (k : Nat) (σ : GS) (h : Heap)
namespace S.spec_Step
noncomputable def c0 := bodyOf Try.f63
noncomputable def c1 := cR c0
noncomputable def c2 := cR c1
@[simp] def n2 {R : Type} (k : Nat) (G : KT2 R) (v1 v2 v4 : GV) (h : Heap) := (kloadA 4 h v2).bind fun v16 => (kF false HH fn.spec_l6Copy [v16] h).bind fun r => kr r fun v17 h => (HH fn.spec_l6Step [v17, v1] h).bind fun r => kr r fun v19 h => (kxt 0 v19).bind fun v20 => (kxt 1 v19).bind fun v21 => (kstore 4 h v4 v20).bind fun h => G .ret v4 v21 h
theorem n2_eq (G : KT2 R) : KC k 22 c2 σ h (Q2 G 4 5) = W3 (n2 k G) 1 2 4 σ h := by kernel_rfl
noncomputable def c3 := cL c1
noncomputable def c4 := cR c3
@[simp] def n4 {R : Type} (k : Nat) (G : KT4 R) (v1 v2 v4 v5 v13 : GV) (h : Heap) := kcond v13 ((gfill (fun i => [(0, 1), (1, 1), (2, 1), (3, 1)][i]?) [(.int .i64 0), .nils, (.int .i64 0), .nils] []).bind fun c => kagg c h fun v14 h => (kstore 4 h v4 v14).bind fun h => G .ret v1 v2 v4 .emp h) (G .nrm v1 v2 v4 v5 h)
theorem n4_eq (G : KT4 R) : KC k 22 c4 σ h (Q4 G 1 2 4 5) = W5 (n4 k G) 1 2 4 5 13 σ h := by kernel_rfl
noncomputable def c5 := cL c3
noncomputable def o5 : Array Oper := cO c5
@[simp] def g5_2 {R : Type} (k : Nat) (G : KT5 R) (v1 v2 v4 v5 v9 v12 : GV) (h : Heap) := (kpick v9 (.bool true) v12).bind fun v13 => G .nrm v1 v2 v4 v5 v13 h
theorem g5_2_eq (G : KT5 R) : kgroups PP cfg NN HH 22 o5 [(none, [7])] σ h (fun σ h => G .nrm (σ 1) (σ 2) (σ 4) (σ 5) (σ 13) h) = W6 (g5_2 k G) 1 2 4 5 9 12 σ h := by kernel_rfl
@[simp] def g5_1 (G : KT5 R) (v1 v2 v4 v5 v9 : GV) (h : Heap) := bif tr false v9 then (kN NN fn.spec_RuneOk [v1] h).bind fun v11 => (kun .not v11).bind fun v12 => g5_2 k G v1 v2 v4 v5 v9 v12 h else g5_2 k G v1 v2 v4 v5 v9 .un h
theorem g5_1_eq (G : KT5 R) : kgroups PP cfg NN HH 22 o5 [(some (3, false), [4, 5, 6]), (none, [7])] σ h (fun σ h => G .nrm (σ 1) (σ 2) (σ 4) (σ 5) (σ 13) h) = W5 (g5_1 k G) 1 2 4 5 9 σ h := (kgroups_cons (fun σ h => g5_2_eq k σ h G)).trans (by kernel_rfl)
@[simp] def g5_0 (G : KT5 R) (v1 v2 v4 v5 : GV) (h : Heap) := (kloadA 4 h v2).bind fun v6 => (kN NN fn.spec_ParserOk [v6] h).bind fun v7 => (kun .not v7).bind fun v8 => g5_1 k G v1 v2 v4 v5 v8 h
theorem g5_0_eq (G : KT5 R) : kgroups PP cfg NN HH 22 o5 [(none, [0, 1, 2, 3]), (some (3, false), [4, 5, 6]), (none, [7])] σ h (fun σ h => G .nrm (σ 1) (σ 2) (σ 4) (σ 5) (σ 13) h) = W4 (g5_0 k G) 1 2 4 5 σ h := (kgroups_cons (fun σ h => g5_1_eq k σ h G)).trans (by kernel_rfl)
@[simp] def n5 (G : KT5 R) (v1 v2 v4 v5 : GV) (h : Heap) := g5_0 k G v1 v2 v4 v5 h
theorem n5_eq (G : KT5 R) : KC k 22 c5 σ h (Q5 G 1 2 4 5 13) = W4 (n5 k G) 1 2 4 5 σ h := (kregion_eq (id := 1) (draw := false) (ops := o5) (gs := [(none, [0, 1, 2, 3]), (some (3, false), [4, 5, 6]), (none, [7])]) (by kernel_rfl) (by kernel_rfl) (by kernel_rfl)).trans (g5_0_eq k σ h G)
@[simp] def n3 (G : KT4 R) (v1 v2 v4 v5 : GV) (h : Heap) := n5 k (fun x v1 v2 v4 v5 v13 h => kx x (n4 k G v1 v2 v4 v5 v13 h) (G x v1 v2 v4 v5 h)) v1 v2 v4 v5 h
theorem n3_eq (G : KT4 R) : KC k 22 c3 σ h (Q4 G 1 2 4 5) = W4 (n3 k G) 1 2 4 5 σ h := (kseq (b := c4) rfl (fun σ h => n4_eq k σ h G)).trans (n5_eq k σ h (fun x v1 v2 v4 v5 v13 h => kx x (n4 k G v1 v2 v4 v5 v13 h) (G x v1 v2 v4 v5 h)))
@[simp] def n1 (G : KT2 R) (v1 v2 v4 v5 : GV) (h : Heap) := n3 k (fun x v1 v2 v4 v5 h => kx x (n2 k G v1 v2 v4 h) (G x v4 v5 h)) v1 v2 v4 v5 h
theorem n1_eq (G : KT2 R) : KC k 22 c1 σ h (Q2 G 4 5) = W4 (n1 k G) 1 2 4 5 σ h := (kseq (b := c2) rfl (fun σ h => n2_eq k σ h G)).trans (n3_eq k σ h (fun x v1 v2 v4 v5 h => kx x (n2 k G v1 v2 v4 h) (G x v4 v5 h)))
noncomputable def c6 := cL c0
@[simp] def n0 (G : KT2 R) (v0 v1 : GV) (h : Heap) := kbox v0 h fun v2 h => kalloc [(.int .i64 0), .nils, (.int .i64 0), .nils] h fun v4 h => n1 k G v1 v2 v4 .nils h
theorem n0_eq (G : KT2 R) : KC k 22 c0 σ h (Q2 G 4 5) = W2 (n0 k G) 0 1 σ h := (kseq (a := c6) (b := c1) rfl (fun σ h => n1_eq k σ h G)).trans (by kernel_rfl)
def run {R : Type} (k : Nat) (a0 a1 : GV) (h : Heap) (fin : GV → Heap → Option R) : Option R := n0 k (fun x v4 v5 h => kend x ((kloadA 4 h v4).bind fun w4 => fin (.tup [w4, v5]) h)) a0 a1 h
theorem gives {k : Nat} {a0 a1 : GV} {v : GV} (e : run k a0 a1 [] finN = some v) : NN fn.spec_Step [a0, a1] = some v := nω_of (by kernel_rfl) (((kfun_eq (nt := 22) (c := c0) (show PP.funcs[fn.spec_Step]? = some Try.f63 by kernel_rfl) (by kernel_rfl) (by kernel_rfl) (fun x σ h => by cases x <;> kernel_rfl)).trans (n0_eq k _ [] _)).trans e)
end S.spec_Step
namespace S.impl_Step
noncomputable def c0 := bodyOf Try.f65
@[simp] def n0 {R : Type} (k : Nat) (G : KT2 R) (v0 v1 : GV) (h : Heap) := kbox v0 h fun v2 h => kalloc [(.int .i64 0), .nils, (.int .i64 0), .nils] h fun v4 h => (kloadA 4 h v2).bind fun v6 => (gfill (fun i => some (i * 1, 1)) (zeros [(.int .i64 0)] 1) [(0, v1)]).bind fun c => kbs 1 1 c h fun v8 h => (kF false HH fn.impl_parsed [v6, v8] h).bind fun r => kr r fun v9 h => (kxt 0 v9).bind fun v10 => (kxt 1 v9).bind fun v11 => (kstore 4 h v4 v10).bind fun h => G .ret v4 v11 h
theorem n0_eq (G : KT2 R) : KC k 12 c0 σ h (Q2 G 4 5) = W2 (n0 k G) 0 1 σ h := by kernel_rfl
def run {R : Type} (k : Nat) (a0 a1 : GV) (h : Heap) (fin : GV → Heap → Option R) : Option R := n0 k (fun x v4 v5 h => kend x ((kloadA 4 h v4).bind fun w4 => fin (.tup [w4, v5]) h)) a0 a1 h
theorem gives {k : Nat} {a0 a1 : GV} {b : Nat} {q : GV × List (List GV)} (e : run k a0 a1 [] (finO b) = some q) : OO fn.impl_Step [a0, a1] b = some q := oω_of (((kfun_eq (nt := 12) (c := c0) (show PP.funcs[fn.impl_Step]? = some Try.f65 by kernel_rfl) (by kernel_rfl) (by kernel_rfl) (fun x σ h => by cases x <;> kernel_rfl)).trans (n0_eq k _ [] _)).trans e)
end S.impl_Step
namespace S.spec_Parsed
noncomputable def c0 := bodyOf Try.f72
noncomputable def c1 := cR c0
noncomputable def c2 := cR c1
noncomputable def c3 := cR c2
noncomputable def c4 := cR c3
noncomputable def c5 := cR c4
@[simp] def n5 {R : Type} (k : Nat) (G : KT2 R) (v2 v4 v6 : GV) (h : Heap) := (kloadA 4 h v2).bind fun v42 => (kstore 4 h v4 v42).bind fun h => G .ret v4 v6 h
theorem n5_eq (G : KT2 R) : KC k 44 c5 σ h (Q2 G 4 5) = W3 (n5 k G) 2 4 6 σ h := by kernel_rfl
noncomputable def c6 := cL c4
noncomputable def c7 := cR c6
noncomputable def c8 := cL c7
noncomputable def c9 := cL c8
noncomputable def c10 := cR c9
noncomputable def c11 := cR c10
@[simp] def n11 {R : Type} (k : Nat) (G : KT6 R) (v1 v2 v4 v5 v6 v7 : GV) (h : Heap) := (kbin .add v7 (.int .i64 1)).bind fun v28 => G .nrm v1 v2 v4 v5 v6 v28 h
theorem n11_eq (G : KT6 R) : KC k 44 c11 σ h (Q6 G 1 2 4 5 6 7) = W6 (n11 k G) 1 2 4 5 6 7 σ h := by kernel_rfl
noncomputable def c12 := cL c10
noncomputable def c13 := cL c12
noncomputable def c14 := cR c13
@[simp] def n14 {R : Type} (k : Nat) (G : KT6 R) (v1 v2 v4 v5 v6 v7 v8 v9 : GV) (h : Heap) := (kloadA 4 h v8).bind fun v38 => (kstore 4 h v2 v38).bind fun h => (kapp [(.int .i64 0), (.int .i64 0), .nils, (.int .i64 0), .nils] 5 72 v6 v9 h).bind fun r => kr r fun v41 h => G .nrm v1 v2 v4 v5 v41 v7 h
theorem n14_eq (G : KT6 R) : KC k 44 c14 σ h (Q6 G 1 2 4 5 6 7) = W8 (n14 k G) 1 2 4 5 6 7 8 9 σ h := by kernel_rfl
noncomputable def c15 := cL c13
noncomputable def o15 : Array Oper := cO c15
@[simp] def g15_0 {R : Type} (k : Nat) (G : KT8 R) (v1 v2 v4 v5 v6 v7 : GV) (rs : List Rec) (h : Heap) := (kloadA 4 h v2).bind fun v30 => (kia 1 v1 v7).bind fun v33 => (kload1 h v33).bind fun v34 => kold h fun h0 => kchk (kflat h0 [v30, v34]) <| (HH fn.spec_l6Step [v30, v34] h).bind fun r => kr r fun v35 h => krs (rs ++ [⟨5, h0.length, h.length, ⟨kreach h0 [v30, v34], kreach h0 [v30, v34]⟩⟩]) fun rs => (kxt 0 v35).bind fun v36 => (kxt 1 v35).bind fun v37 => kold h fun h0 => kalloc [(.int .i64 0), .nils, (.int .i64 0), .nils] h fun v8 h => krs (rs ++ [⟨9, h0.length, h.length, ⟨[], []⟩⟩]) fun rs => (kstore 4 h v8 v36).bind fun h => bif chk [(5, 9)] rs then G .nrm v1 v2 v4 v5 v6 v7 v8 v37 h else none
theorem g15_0_eq (G : KT8 R) (rs : List Rec) (σ : GS) (h : Heap) : kgroupsD PP cfg NN HH 44 o15 [(5, 9)] [(none, [0, 1, 2, 3, 4, 5, 6, 7, 8, 9, 10, 11])] rs σ h (fun rs σ h => bif chk [(5, 9)] rs then G .nrm (σ 1) (σ 2) (σ 4) (σ 5) (σ 6) (σ 7) (σ 8) (σ 9) h else none) = g15_0 k G (σ 1) (σ 2) (σ 4) (σ 5) (σ 6) (σ 7) rs h := by kernel_rfl
@[simp] def n15 (G : KT8 R) (v1 v2 v4 v5 v6 v7 : GV) (h : Heap) := g15_0 k G v1 v2 v4 v5 v6 v7 [] h
theorem n15_eq (G : KT8 R) : KC k 44 c15 σ h (Q8 G 1 2 4 5 6 7 8 9) = W6 (n15 k G) 1 2 4 5 6 7 σ h := (kregionD_eq (id := 8) (draw := true) (ops := o15) (gs := [(none, [0, 1, 2, 3, 4, 5, 6, 7, 8, 9, 10, 11])]) (bad := [(5, 9)]) (by kernel_rfl) (by kernel_rfl) (by kernel_rfl) (by kernel_rfl) (by kernel_rfl)).trans (g15_0_eq k G [] σ h)
@[simp] def n13 (G : KT6 R) (v1 v2 v4 v5 v6 v7 : GV) (h : Heap) := n15 k (fun x v1 v2 v4 v5 v6 v7 v8 v9 h => kx x (n14 k G v1 v2 v4 v5 v6 v7 v8 v9 h) (G x v1 v2 v4 v5 v6 v7 h)) v1 v2 v4 v5 v6 v7 h
theorem n13_eq (G : KT6 R) : KC k 44 c13 σ h (Q6 G 1 2 4 5 6 7) = W6 (n13 k G) 1 2 4 5 6 7 σ h := (kseq (b := c14) rfl (fun σ h => n14_eq k σ h G)).trans (n15_eq k σ h (fun x v1 v2 v4 v5 v6 v7 v8 v9 h => kx x (n14 k G v1 v2 v4 v5 v6 v7 v8 v9 h) (G x v1 v2 v4 v5 v6 v7 h)))
@[simp] def n12 (G : KT6 R) (v1 v2 v4 v5 v6 v7 : GV) (h : Heap) := n13 k (fun x v1 v2 v4 v5 v6 v7 h => kb 1 x fun x => G x v1 v2 v4 v5 v6 v7 h) v1 v2 v4 v5 v6 v7 h
theorem n12_eq (G : KT6 R) : KC k 44 c12 σ h (Q6 G 1 2 4 5 6 7) = W6 (n12 k G) 1 2 4 5 6 7 σ h := (kblock_eq (a := c13) rfl).trans (n13_eq k σ h (fun x v1 v2 v4 v5 v6 v7 h => kb 1 x fun x => G x v1 v2 v4 v5 v6 v7 h))
@[simp] def n10 (G : KT6 R) (v1 v2 v4 v5 v6 v7 : GV) (h : Heap) := n12 k (fun x v1 v2 v4 v5 v6 v7 h => kx x (n11 k G v1 v2 v4 v5 v6 v7 h) (G x v1 v2 v4 v5 v6 v7 h)) v1 v2 v4 v5 v6 v7 h
theorem n10_eq (G : KT6 R) : KC k 44 c10 σ h (Q6 G 1 2 4 5 6 7) = W6 (n10 k G) 1 2 4 5 6 7 σ h := (kseq (b := c11) rfl (fun σ h => n11_eq k σ h G)).trans (n12_eq k σ h (fun x v1 v2 v4 v5 v6 v7 h => kx x (n11 k G v1 v2 v4 v5 v6 v7 h) (G x v1 v2 v4 v5 v6 v7 h)))
noncomputable def c16 := cL c9
@[simp] def n9 (G : KT6 R) (v1 v2 v4 v5 v6 v7 : GV) (h : Heap) := (klen v1).bind fun v25 => (kbin .lss v7 v25).bind fun v26 => kcond v26 (n10 k G v1 v2 v4 v5 v6 v7 h) (G (.ext 0) v1 v2 v4 v5 v6 v7 h)
theorem n9_eq (G : KT6 R) : KC k 44 c9 σ h (Q6 G 1 2 4 5 6 7) = W6 (n9 k G) 1 2 4 5 6 7 σ h := (kseq (a := c16) (b := c10) rfl (fun σ h => n10_eq k σ h G)).trans (by kernel_rfl)
def l8 {R : Type} (k : Nat) (G : KT4 R) : Nat → GV → GV → GV → GV → GV → GV → Heap → Option R
  | 0, _, _, _, _, _, _, _ => none
  | r + 1, v1, v2, v4, v5, v6, v7, h => n9 k (fun x v1 v2 v4 v5 v6 v7 h => kx x (l8 k G r v1 v2 v4 v5 v6 v7 h) (G x v2 v4 v5 v6 h)) v1 v2 v4 v5 v6 v7 h
theorem l8_eq {R : Type} (k : Nat) (G : KT4 R) : ∀ (r : Nat) (σ : GS) (h : Heap), kloop (fun σ h K => KC k 44 c9 σ h K) r σ h (Q4 G 2 4 5 6) = l8 k G r (σ 1) (σ 2) (σ 4) (σ 5) (σ 6) (σ 7) h
  | 0, _, _ => rfl
  | r + 1, σ, h => (kloop_eq (fun σ h => l8_eq k G r σ h)).trans (n9_eq k σ h (fun x v1 v2 v4 v5 v6 v7 h => kx x (l8 k G r v1 v2 v4 v5 v6 v7 h) (G x v2 v4 v5 v6 h)))
@[simp] def n8 (G : KT4 R) (v1 v2 v4 v5 v6 v7 : GV) (h : Heap) := l8 k G k v1 v2 v4 v5 v6 v7 h
theorem n8_eq (G : KT4 R) : KC k 44 c8 σ h (Q4 G 2 4 5 6) = W6 (n8 k G) 1 2 4 5 6 7 σ h := (kloopc_eq (a := c9) rfl).trans (l8_eq k G k σ h)
@[simp] def n7 (G : KT4 R) (v1 v2 v4 v5 v6 v7 : GV) (h : Heap) := n8 k (fun x v2 v4 v5 v6 h => kb 0 x fun x => G x v2 v4 v5 v6 h) v1 v2 v4 v5 v6 v7 h
theorem n7_eq (G : KT4 R) : KC k 44 c7 σ h (Q4 G 2 4 5 6) = W6 (n7 k G) 1 2 4 5 6 7 σ h := (kblock_eq (a := c8) rfl).trans (n8_eq k σ h (fun x v2 v4 v5 v6 h => kb 0 x fun x => G x v2 v4 v5 v6 h))
noncomputable def c17 := cL c6
@[simp] def n6 (G : KT4 R) (v1 v2 v4 v5 v6 : GV) (h : Heap) := n7 k G v1 v2 v4 v5 v6 (.int .i64 0) h
theorem n6_eq (G : KT4 R) : KC k 44 c6 σ h (Q4 G 2 4 5 6) = W5 (n6 k G) 1 2 4 5 6 σ h := (kseq (a := c17) (b := c7) rfl (fun σ h => n7_eq k σ h G)).trans (by kernel_rfl)
@[simp] def n4 (G : KT2 R) (v1 v2 v4 v5 v6 : GV) (h : Heap) := n6 k (fun x v2 v4 v5 v6 h => kx x (n5 k G v2 v4 v6 h) (G x v4 v5 h)) v1 v2 v4 v5 v6 h
theorem n4_eq (G : KT2 R) : KC k 44 c4 σ h (Q2 G 4 5) = W5 (n4 k G) 1 2 4 5 6 σ h := (kseq (b := c5) rfl (fun σ h => n5_eq k σ h G)).trans (n6_eq k σ h (fun x v2 v4 v5 v6 h => kx x (n5 k G v2 v4 v6 h) (G x v4 v5 h)))
noncomputable def c18 := cL c3
@[simp] def n3 (G : KT2 R) (v1 v2 v4 v5 v6 : GV) (h : Heap) := (kloadA 4 h v2).bind fun v21 => (kF false HH fn.spec_l6Copy [v21] h).bind fun r => kr r fun v22 h => (kstore 4 h v2 v22).bind fun h => n4 k G v1 v2 v4 v5 v6 h
theorem n3_eq (G : KT2 R) : KC k 44 c3 σ h (Q2 G 4 5) = W5 (n3 k G) 1 2 4 5 6 σ h := (kseq (a := c18) (b := c4) rfl (fun σ h => n4_eq k σ h G)).trans (by kernel_rfl)
noncomputable def c19 := cL c2
noncomputable def c20 := cR c19
@[simp] def n20 {R : Type} (k : Nat) (G : KT5 R) (v1 v2 v4 v5 v6 v18 : GV) (h : Heap) := kcond v18 ((gfill (fun i => [(0, 1), (1, 1), (2, 1), (3, 1)][i]?) [(.int .i64 0), .nils, (.int .i64 0), .nils] []).bind fun c => kagg c h fun v19 h => (kstore 4 h v4 v19).bind fun h => G .ret v1 v2 v4 v6 v6 h) (G .nrm v1 v2 v4 v5 v6 h)
theorem n20_eq (G : KT5 R) : KC k 44 c20 σ h (Q5 G 1 2 4 5 6) = W6 (n20 k G) 1 2 4 5 6 18 σ h := by kernel_rfl
noncomputable def c21 := cL c19
noncomputable def o21 : Array Oper := cO c21
@[simp] def g21_2 {R : Type} (k : Nat) (G : KT6 R) (v1 v2 v4 v5 v6 v14 v17 : GV) (h : Heap) := (kpick v14 (.bool true) v17).bind fun v18 => G .nrm v1 v2 v4 v5 v6 v18 h
theorem g21_2_eq (G : KT6 R) : kgroups PP cfg NN HH 44 o21 [(none, [7])] σ h (fun σ h => G .nrm (σ 1) (σ 2) (σ 4) (σ 5) (σ 6) (σ 18) h) = W7 (g21_2 k G) 1 2 4 5 6 14 17 σ h := by kernel_rfl
@[simp] def g21_1 (G : KT6 R) (v1 v2 v4 v5 v6 v14 : GV) (h : Heap) := bif tr false v14 then (kN NN fn.spec_l6Runes [v1, (.int .i64 2000)] h).bind fun v16 => (kun .not v16).bind fun v17 => g21_2 k G v1 v2 v4 v5 v6 v14 v17 h else g21_2 k G v1 v2 v4 v5 v6 v14 .un h
theorem g21_1_eq (G : KT6 R) : kgroups PP cfg NN HH 44 o21 [(some (3, false), [4, 5, 6]), (none, [7])] σ h (fun σ h => G .nrm (σ 1) (σ 2) (σ 4) (σ 5) (σ 6) (σ 18) h) = W6 (g21_1 k G) 1 2 4 5 6 14 σ h := (kgroups_cons (fun σ h => g21_2_eq k σ h G)).trans (by kernel_rfl)
@[simp] def g21_0 (G : KT6 R) (v1 v2 v4 v5 v6 : GV) (h : Heap) := (kloadA 4 h v2).bind fun v11 => (kN NN fn.spec_ParserOk [v11] h).bind fun v12 => (kun .not v12).bind fun v13 => g21_1 k G v1 v2 v4 v5 v6 v13 h
theorem g21_0_eq (G : KT6 R) : kgroups PP cfg NN HH 44 o21 [(none, [0, 1, 2, 3]), (some (3, false), [4, 5, 6]), (none, [7])] σ h (fun σ h => G .nrm (σ 1) (σ 2) (σ 4) (σ 5) (σ 6) (σ 18) h) = W5 (g21_0 k G) 1 2 4 5 6 σ h := (kgroups_cons (fun σ h => g21_1_eq k σ h G)).trans (by kernel_rfl)
@[simp] def n21 (G : KT6 R) (v1 v2 v4 v5 v6 : GV) (h : Heap) := g21_0 k G v1 v2 v4 v5 v6 h
theorem n21_eq (G : KT6 R) : KC k 44 c21 σ h (Q6 G 1 2 4 5 6 18) = W5 (n21 k G) 1 2 4 5 6 σ h := (kregion_eq (id := 2) (draw := false) (ops := o21) (gs := [(none, [0, 1, 2, 3]), (some (3, false), [4, 5, 6]), (none, [7])]) (by kernel_rfl) (by kernel_rfl) (by kernel_rfl)).trans (g21_0_eq k σ h G)
@[simp] def n19 (G : KT5 R) (v1 v2 v4 v5 v6 : GV) (h : Heap) := n21 k (fun x v1 v2 v4 v5 v6 v18 h => kx x (n20 k G v1 v2 v4 v5 v6 v18 h) (G x v1 v2 v4 v5 v6 h)) v1 v2 v4 v5 v6 h
theorem n19_eq (G : KT5 R) : KC k 44 c19 σ h (Q5 G 1 2 4 5 6) = W5 (n19 k G) 1 2 4 5 6 σ h := (kseq (b := c20) rfl (fun σ h => n20_eq k σ h G)).trans (n21_eq k σ h (fun x v1 v2 v4 v5 v6 v18 h => kx x (n20 k G v1 v2 v4 v5 v6 v18 h) (G x v1 v2 v4 v5 v6 h)))
@[simp] def n2 (G : KT2 R) (v1 v2 v4 v5 v6 : GV) (h : Heap) := n19 k (fun x v1 v2 v4 v5 v6 h => kx x (n3 k G v1 v2 v4 v5 v6 h) (G x v4 v5 h)) v1 v2 v4 v5 v6 h
theorem n2_eq (G : KT2 R) : KC k 44 c2 σ h (Q2 G 4 5) = W5 (n2 k G) 1 2 4 5 6 σ h := (kseq (b := c3) rfl (fun σ h => n3_eq k σ h G)).trans (n19_eq k σ h (fun x v1 v2 v4 v5 v6 h => kx x (n3 k G v1 v2 v4 v5 v6 h) (G x v4 v5 h)))
noncomputable def c22 := cL c1
@[simp] def n1 (G : KT2 R) (v1 v2 v4 v5 : GV) (h : Heap) := n2 k G v1 v2 v4 v5 .emp h
theorem n1_eq (G : KT2 R) : KC k 44 c1 σ h (Q2 G 4 5) = W4 (n1 k G) 1 2 4 5 σ h := (kseq (a := c22) (b := c2) rfl (fun σ h => n2_eq k σ h G)).trans (by kernel_rfl)
noncomputable def c23 := cL c0
@[simp] def n0 (G : KT2 R) (v0 v1 : GV) (h : Heap) := kbox v0 h fun v2 h => kalloc [(.int .i64 0), .nils, (.int .i64 0), .nils] h fun v4 h => n1 k G v1 v2 v4 .nils h
theorem n0_eq (G : KT2 R) : KC k 44 c0 σ h (Q2 G 4 5) = W2 (n0 k G) 0 1 σ h := (kseq (a := c23) (b := c1) rfl (fun σ h => n1_eq k σ h G)).trans (by kernel_rfl)
def run {R : Type} (k : Nat) (a0 a1 : GV) (h : Heap) (fin : GV → Heap → Option R) : Option R := n0 k (fun x v4 v5 h => kend x ((kloadA 4 h v4).bind fun w4 => fin (.tup [w4, v5]) h)) a0 a1 h
theorem gives {k : Nat} {a0 a1 : GV} {b : Nat} {q : GV × List (List GV)} (e : run k a0 a1 [] (finO b) = some q) : OO fn.spec_Parsed [a0, a1] b = some q := oω_of (((kfun_eq (nt := 44) (c := c0) (show PP.funcs[fn.spec_Parsed]? = some Try.f72 by kernel_rfl) (by kernel_rfl) (by kernel_rfl) (fun x σ h => by cases x <;> kernel_rfl)).trans (n0_eq k _ [] _)).trans e)
end S.spec_Parsed
namespace S.impl_Parsed
noncomputable def c0 := bodyOf Try.f74
@[simp] def n0 {R : Type} (k : Nat) (G : KT2 R) (v0 v1 : GV) (h : Heap) := kbox v0 h fun v2 h => kalloc [(.int .i64 0), .nils, (.int .i64 0), .nils] h fun v4 h => (klen v1).bind fun v7 => (kbin .gtr v7 (.int .i64 2000)).bind fun v8 => kcond v8 ((gfill (fun i => [(0, 1), (1, 1), (2, 1), (3, 1)][i]?) [(.int .i64 0), .nils, (.int .i64 0), .nils] []).bind fun c => kagg c h fun v9 h => (kstore 4 h v4 v9).bind fun h => G .ret v4 .nils h) ((kloadA 4 h v2).bind fun v10 => (kF false HH fn.impl_parsed [v10, v1] h).bind fun r => kr r fun v12 h => (kxt 0 v12).bind fun v13 => (kxt 1 v12).bind fun v14 => (kstore 4 h v4 v13).bind fun h => G .ret v4 v14 h)
theorem n0_eq (G : KT2 R) : KC k 15 c0 σ h (Q2 G 4 5) = W2 (n0 k G) 0 1 σ h := by kernel_rfl
def run {R : Type} (k : Nat) (a0 a1 : GV) (h : Heap) (fin : GV → Heap → Option R) : Option R := n0 k (fun x v4 v5 h => kend x ((kloadA 4 h v4).bind fun w4 => fin (.tup [w4, v5]) h)) a0 a1 h
theorem gives {k : Nat} {a0 a1 : GV} {b : Nat} {q : GV × List (List GV)} (e : run k a0 a1 [] (finO b) = some q) : OO fn.impl_Parsed [a0, a1] b = some q := oω_of (((kfun_eq (nt := 15) (c := c0) (show PP.funcs[fn.impl_Parsed]? = some Try.f74 by kernel_rfl) (by kernel_rfl) (by kernel_rfl) (fun x σ h => by cases x <;> kernel_rfl)).trans (n0_eq k _ [] _)).trans e)
end S.impl_Parsed
namespace S.impl_ParserOk
noncomputable def c0 := bodyOf Try.f91
noncomputable def c1 := cR c0
noncomputable def c2 := cR c1
noncomputable def c3 := cR c2
@[simp] def n3 {R : Type} (k : Nat) (G : KT1 R) (v2 : GV) (h : Heap) := G .ret v2 h
theorem n3_eq (G : KT1 R) : KC k 50 c3 σ h (Q1 G 2) = n3 k G (σ 2) h := by kernel_rfl
noncomputable def c4 := cL c2
noncomputable def o4 : Array Oper := cO c4
@[simp] def g4_8 {R : Type} (k : Nat) (G : KT1 R) (v39 v48 : GV) (h : Heap) := (kpick v39 v48 (.bool false)).bind fun v49 => G .nrm v49 h
theorem g4_8_eq (G : KT1 R) : kgroups PP cfg NN HH 50 o4 [(none, [24, 25])] σ h (fun σ h => G .nrm (σ 2) h) = W2 (g4_8 k G) 39 48 σ h := by kernel_rfl
@[simp] def g4_7 (G : KT1 R) (v39 v43 v47 : GV) (h : Heap) := bif tr true v39 then (kpick v43 (.bool true) v47).bind fun v48 => g4_8 k G v39 v48 h else g4_8 k G v39 .un h
theorem g4_7_eq (G : KT1 R) : kgroups PP cfg NN HH 50 o4 [(some (14, true), [23]), (none, [24, 25])] σ h (fun σ h => G .nrm (σ 2) h) = W3 (g4_7 k G) 39 43 47 σ h := (kgroups_cons (fun σ h => g4_8_eq k σ h G)).trans (by kernel_rfl)
@[simp] def g4_6 (G : KT1 R) (v1 v39 v43 : GV) (h : Heap) := bif tr false v43 then (kfa 3 v1).bind fun v44 => (kload1 h v44).bind fun v45 => (klen v45).bind fun v46 => (kbin .eql v46 (.int .i64 0)).bind fun v47 => g4_7 k G v39 v43 v47 h else g4_7 k G v39 v43 .un h
theorem g4_6_eq (G : KT1 R) : kgroups PP cfg NN HH 50 o4 [(some (18, false), [19, 20, 21, 22]), (some (14, true), [23]), (none, [24, 25])] σ h (fun σ h => G .nrm (σ 2) h) = W3 (g4_6 k G) 1 39 43 σ h := (kgroups_cons (fun σ h => g4_7_eq k σ h G)).trans (by kernel_rfl)
@[simp] def g4_5 (G : KT1 R) (v1 v39 : GV) (h : Heap) := bif tr true v39 then (kfa 0 v1).bind fun v40 => (kload1 h v40).bind fun v41 => (kbin .geq v41 (.int .i64 4)).bind fun v42 => g4_6 k G v1 v39 v42 h else g4_6 k G v1 v39 .un h
theorem g4_5_eq (G : KT1 R) : kgroups PP cfg NN HH 50 o4 [(some (14, true), [15, 16, 17, 18]), (some (18, false), [19, 20, 21, 22]), (some (14, true), [23]), (none, [24, 25])] σ h (fun σ h => G .nrm (σ 2) h) = W2 (g4_5 k G) 1 39 σ h := (kgroups_cons (fun σ h => g4_6_eq k σ h G)).trans (by kernel_rfl)
@[simp] def g4_4 (G : KT1 R) (v1 v28 v37 : GV) (h : Heap) := (kpick v28 (.bool true) v37).bind fun v38 => g4_5 k G v1 v38 h
theorem g4_4_eq (G : KT1 R) : kgroups PP cfg NN HH 50 o4 [(none, [13, 14]), (some (14, true), [15, 16, 17, 18]), (some (18, false), [19, 20, 21, 22]), (some (14, true), [23]), (none, [24, 25])] σ h (fun σ h => G .nrm (σ 2) h) = W3 (g4_4 k G) 1 28 37 σ h := (kgroups_cons (fun σ h => g4_5_eq k σ h G)).trans (by kernel_rfl)
@[simp] def g4_3 (G : KT1 R) (v1 v28 v33 v36 : GV) (h : Heap) := bif tr false v28 then (kpick v33 v36 (.bool false)).bind fun v37 => g4_4 k G v1 v28 v37 h else g4_4 k G v1 v28 .un h
theorem g4_3_eq (G : KT1 R) : kgroups PP cfg NN HH 50 o4 [(some (3, false), [12]), (none, [13, 14]), (some (14, true), [15, 16, 17, 18]), (some (18, false), [19, 20, 21, 22]), (some (14, true), [23]), (none, [24, 25])] σ h (fun σ h => G .nrm (σ 2) h) = W4 (g4_3 k G) 1 28 33 36 σ h := (kgroups_cons (fun σ h => g4_4_eq k σ h G)).trans (by kernel_rfl)
@[simp] def g4_2 (G : KT1 R) (v1 v28 v33 : GV) (h : Heap) := bif tr true v33 then (kfa 2 v1).bind fun v34 => (kload1 h v34).bind fun v35 => (kbin .eql v35 (.int .i64 0)).bind fun v36 => g4_3 k G v1 v28 v33 v36 h else g4_3 k G v1 v28 v33 .un h
theorem g4_2_eq (G : KT1 R) : kgroups PP cfg NN HH 50 o4 [(some (8, true), [9, 10, 11]), (some (3, false), [12]), (none, [13, 14]), (some (14, true), [15, 16, 17, 18]), (some (18, false), [19, 20, 21, 22]), (some (14, true), [23]), (none, [24, 25])] σ h (fun σ h => G .nrm (σ 2) h) = W3 (g4_2 k G) 1 28 33 σ h := (kgroups_cons (fun σ h => g4_3_eq k σ h G)).trans (by kernel_rfl)
@[simp] def g4_1 (G : KT1 R) (v1 v28 : GV) (h : Heap) := bif tr false v28 then (kfa 1 v1).bind fun v29 => (kload1 h v29).bind fun v30 => (klen v30).bind fun v31 => (kbin .eql v31 (.int .i64 0)).bind fun v32 => g4_2 k G v1 v28 v32 h else g4_2 k G v1 v28 .un h
theorem g4_1_eq (G : KT1 R) : kgroups PP cfg NN HH 50 o4 [(some (3, false), [4, 5, 6, 7, 8]), (some (8, true), [9, 10, 11]), (some (3, false), [12]), (none, [13, 14]), (some (14, true), [15, 16, 17, 18]), (some (18, false), [19, 20, 21, 22]), (some (14, true), [23]), (none, [24, 25])] σ h (fun σ h => G .nrm (σ 2) h) = W2 (g4_1 k G) 1 28 σ h := (kgroups_cons (fun σ h => g4_2_eq k σ h G)).trans (by kernel_rfl)
@[simp] def g4_0 (G : KT1 R) (v1 : GV) (h : Heap) := (kfa 0 v1).bind fun v25 => (kload1 h v25).bind fun v26 => (kbin .eql v26 (.int .i64 3)).bind fun v27 => g4_1 k G v1 v27 h
theorem g4_0_eq (G : KT1 R) : kgroups PP cfg NN HH 50 o4 [(none, [0, 1, 2, 3]), (some (3, false), [4, 5, 6, 7, 8]), (some (8, true), [9, 10, 11]), (some (3, false), [12]), (none, [13, 14]), (some (14, true), [15, 16, 17, 18]), (some (18, false), [19, 20, 21, 22]), (some (14, true), [23]), (none, [24, 25])] σ h (fun σ h => G .nrm (σ 2) h) = g4_0 k G (σ 1) h := (kgroups_cons (fun σ h => g4_1_eq k σ h G)).trans (by kernel_rfl)
@[simp] def n4 (G : KT1 R) (v1 : GV) (h : Heap) := g4_0 k G v1 h
theorem n4_eq (G : KT1 R) : KC k 50 c4 σ h (Q1 G 2) = n4 k G (σ 1) h := (kregion_eq (id := 3) (draw := false) (ops := o4) (gs := [(none, [0, 1, 2, 3]), (some (3, false), [4, 5, 6, 7, 8]), (some (8, true), [9, 10, 11]), (some (3, false), [12]), (none, [13, 14]), (some (14, true), [15, 16, 17, 18]), (some (18, false), [19, 20, 21, 22]), (some (14, true), [23]), (none, [24, 25])]) (by kernel_rfl) (by kernel_rfl) (by kernel_rfl)).trans (g4_0_eq k σ h G)
@[simp] def n2 (G : KT1 R) (v1 : GV) (h : Heap) := n4 k (fun x v2 h => kx x (n3 k G v2 h) (G x v2 h)) v1 h
theorem n2_eq (G : KT1 R) : KC k 50 c2 σ h (Q1 G 2) = n2 k G (σ 1) h := (kseq (b := c3) rfl (fun σ h => n3_eq k σ h G)).trans (n4_eq k σ h (fun x v2 h => kx x (n3 k G v2 h) (G x v2 h)))
noncomputable def c5 := cL c1
noncomputable def c6 := cR c5
@[simp] def n6 {R : Type} (k : Nat) (G : KT2 R) (v1 v2 v24 : GV) (h : Heap) := kcond v24 (G .ret v1 (.bool false) h) (G .nrm v1 v2 h)
theorem n6_eq (G : KT2 R) : KC k 50 c6 σ h (Q2 G 1 2) = W3 (n6 k G) 1 2 24 σ h := by kernel_rfl
noncomputable def c7 := cL c5
noncomputable def o7 : Array Oper := cO c7
@[simp] def g7_6 {R : Type} (k : Nat) (G : KT3 R) (v1 v2 v19 v23 : GV) (h : Heap) := (kpick v19 (.bool true) v23).bind fun v24 => G .nrm v1 v2 v24 h
theorem g7_6_eq (G : KT3 R) : kgroups PP cfg NN HH 50 o7 [(none, [21])] σ h (fun σ h => G .nrm (σ 1) (σ 2) (σ 24) h) = W4 (g7_6 k G) 1 2 19 23 σ h := by kernel_rfl
@[simp] def g7_5 (G : KT3 R) (v1 v2 v19 : GV) (h : Heap) := bif tr false v19 then (kfa 3 v1).bind fun v20 => (kload1 h v20).bind fun v21 => (kN NN fn.impl_areTitle [v21] h).bind fun v22 => (kun .not v22).bind fun v23 => g7_6 k G v1 v2 v19 v23 h else g7_6 k G v1 v2 v19 .un h
theorem g7_5_eq (G : KT3 R) : kgroups PP cfg NN HH 50 o7 [(some (16, false), [17, 18, 19, 20]), (none, [21])] σ h (fun σ h => G .nrm (σ 1) (σ 2) (σ 24) h) = W3 (g7_5 k G) 1 2 19 σ h := (kgroups_cons (fun σ h => g7_6_eq k σ h G)).trans (by kernel_rfl)
@[simp] def g7_4 (G : KT3 R) (v1 v2 v13 v17 : GV) (h : Heap) := (kpick v13 (.bool true) v17).bind fun v18 => g7_5 k G v1 v2 v18 h
theorem g7_4_eq (G : KT3 R) : kgroups PP cfg NN HH 50 o7 [(none, [15, 16]), (some (16, false), [17, 18, 19, 20]), (none, [21])] σ h (fun σ h => G .nrm (σ 1) (σ 2) (σ 24) h) = W4 (g7_4 k G) 1 2 13 17 σ h := (kgroups_cons (fun σ h => g7_5_eq k σ h G)).trans (by kernel_rfl)
@[simp] def g7_3 (G : KT3 R) (v1 v2 v13 : GV) (h : Heap) := bif tr false v13 then (kfa 2 v1).bind fun v14 => (kload1 h v14).bind fun v15 => (kN NN fn.impl_isMark [v15] h).bind fun v16 => (kun .not v16).bind fun v17 => g7_4 k G v1 v2 v13 v17 h else g7_4 k G v1 v2 v13 .un h
theorem g7_3_eq (G : KT3 R) : kgroups PP cfg NN HH 50 o7 [(some (10, false), [11, 12, 13, 14]), (none, [15, 16]), (some (16, false), [17, 18, 19, 20]), (none, [21])] σ h (fun σ h => G .nrm (σ 1) (σ 2) (σ 24) h) = W3 (g7_3 k G) 1 2 13 σ h := (kgroups_cons (fun σ h => g7_4_eq k σ h G)).trans (by kernel_rfl)
@[simp] def g7_2 (G : KT3 R) (v1 v2 v7 v11 : GV) (h : Heap) := (kpick v7 (.bool true) v11).bind fun v12 => g7_3 k G v1 v2 v12 h
theorem g7_2_eq (G : KT3 R) : kgroups PP cfg NN HH 50 o7 [(none, [9, 10]), (some (10, false), [11, 12, 13, 14]), (none, [15, 16]), (some (16, false), [17, 18, 19, 20]), (none, [21])] σ h (fun σ h => G .nrm (σ 1) (σ 2) (σ 24) h) = W4 (g7_2 k G) 1 2 7 11 σ h := (kgroups_cons (fun σ h => g7_3_eq k σ h G)).trans (by kernel_rfl)
@[simp] def g7_1 (G : KT3 R) (v1 v2 v7 : GV) (h : Heap) := bif tr false v7 then (kfa 1 v1).bind fun v8 => (kload1 h v8).bind fun v9 => (kN NN fn.impl_areParams [v9] h).bind fun v10 => (kun .not v10).bind fun v11 => g7_2 k G v1 v2 v7 v11 h else g7_2 k G v1 v2 v7 .un h
theorem g7_1_eq (G : KT3 R) : kgroups PP cfg NN HH 50 o7 [(some (4, false), [5, 6, 7, 8]), (none, [9, 10]), (some (10, false), [11, 12, 13, 14]), (none, [15, 16]), (some (16, false), [17, 18, 19, 20]), (none, [21])] σ h (fun σ h => G .nrm (σ 1) (σ 2) (σ 24) h) = W3 (g7_1 k G) 1 2 7 σ h := (kgroups_cons (fun σ h => g7_2_eq k σ h G)).trans (by kernel_rfl)
@[simp] def g7_0 (G : KT3 R) (v1 v2 : GV) (h : Heap) := (kfa 0 v1).bind fun v3 => (kload1 h v3).bind fun v4 => (kN NN fn.impl_in [v4, (.int .i64 1), (.int .i64 5)] h).bind fun v5 => (kun .not v5).bind fun v6 => g7_1 k G v1 v2 v6 h
theorem g7_0_eq (G : KT3 R) : kgroups PP cfg NN HH 50 o7 [(none, [0, 1, 2, 3, 4]), (some (4, false), [5, 6, 7, 8]), (none, [9, 10]), (some (10, false), [11, 12, 13, 14]), (none, [15, 16]), (some (16, false), [17, 18, 19, 20]), (none, [21])] σ h (fun σ h => G .nrm (σ 1) (σ 2) (σ 24) h) = W2 (g7_0 k G) 1 2 σ h := (kgroups_cons (fun σ h => g7_1_eq k σ h G)).trans (by kernel_rfl)
@[simp] def n7 (G : KT3 R) (v1 v2 : GV) (h : Heap) := g7_0 k G v1 v2 h
theorem n7_eq (G : KT3 R) : KC k 50 c7 σ h (Q3 G 1 2 24) = W2 (n7 k G) 1 2 σ h := (kregion_eq (id := 1) (draw := false) (ops := o7) (gs := [(none, [0, 1, 2, 3, 4]), (some (4, false), [5, 6, 7, 8]), (none, [9, 10]), (some (10, false), [11, 12, 13, 14]), (none, [15, 16]), (some (16, false), [17, 18, 19, 20]), (none, [21])]) (by kernel_rfl) (by kernel_rfl) (by kernel_rfl)).trans (g7_0_eq k σ h G)
@[simp] def n5 (G : KT2 R) (v1 v2 : GV) (h : Heap) := n7 k (fun x v1 v2 v24 h => kx x (n6 k G v1 v2 v24 h) (G x v1 v2 h)) v1 v2 h
theorem n5_eq (G : KT2 R) : KC k 50 c5 σ h (Q2 G 1 2) = W2 (n5 k G) 1 2 σ h := (kseq (b := c6) rfl (fun σ h => n6_eq k σ h G)).trans (n7_eq k σ h (fun x v1 v2 v24 h => kx x (n6 k G v1 v2 v24 h) (G x v1 v2 h)))
@[simp] def n1 (G : KT1 R) (v1 v2 : GV) (h : Heap) := n5 k (fun x v1 v2 h => kx x (n2 k G v1 h) (G x v2 h)) v1 v2 h
theorem n1_eq (G : KT1 R) : KC k 50 c1 σ h (Q1 G 2) = W2 (n1 k G) 1 2 σ h := (kseq (b := c2) rfl (fun σ h => n2_eq k σ h G)).trans (n5_eq k σ h (fun x v1 v2 h => kx x (n2 k G v1 h) (G x v2 h)))
noncomputable def c8 := cL c0
@[simp] def n0 (G : KT1 R) (v0 : GV) (h : Heap) := kbox v0 h fun v1 h => n1 k G v1 (.bool false) h
theorem n0_eq (G : KT1 R) : KC k 50 c0 σ h (Q1 G 2) = n0 k G (σ 0) h := (kseq (a := c8) (b := c1) rfl (fun σ h => n1_eq k σ h G)).trans (by kernel_rfl)
def run {R : Type} (k : Nat) (a0 : GV) (h : Heap) (fin : GV → Heap → Option R) : Option R := n0 k (fun x v2 h => kend x (fin v2 h)) a0 h
theorem gives {k : Nat} {a0 : GV} {v : GV} (e : run k a0 [] finN = some v) : NN fn.impl_ParserOk [a0] = some v := nω_of (by kernel_rfl) (((kfun_eq (nt := 50) (c := c0) (show PP.funcs[fn.impl_ParserOk]? = some Try.f91 by kernel_rfl) (by kernel_rfl) (by kernel_rfl) (fun x σ h => by cases x <;> kernel_rfl)).trans (n0_eq k _ [] _)).trans e)
end S.impl_ParserOk
namespace S.spec_ParserOk
noncomputable def c0 := bodyOf Try.f92
noncomputable def c1 := cR c0
noncomputable def c2 := cR c1
noncomputable def c3 := cR c2
noncomputable def c4 := cR c3
noncomputable def c5 := cR c4
noncomputable def c6 := cR c5
@[simp] def n6 {R : Type} (k : Nat) (G : KT1 R) (v2 : GV) (h : Heap) := G .ret v2 h
theorem n6_eq (G : KT1 R) : KC k 73 c6 σ h (Q1 G 2) = n6 k G (σ 2) h := by kernel_rfl
noncomputable def c7 := cL c5
noncomputable def o7 : Array Oper := cO c7
@[simp] def g7_2 {R : Type} (k : Nat) (G : KT1 R) (v70 v71 : GV) (h : Heap) := (kpick v70 v71 (.bool false)).bind fun v72 => G .nrm v72 h
theorem g7_2_eq (G : KT1 R) : kgroups PP cfg NN HH 73 o7 [(none, [3, 4])] σ h (fun σ h => G .nrm (σ 2) h) = W2 (g7_2 k G) 70 71 σ h := by kernel_rfl
@[simp] def g7_1 (G : KT1 R) (v5 v70 : GV) (h : Heap) := bif tr true v70 then g7_2 k G v70 v5 h else g7_2 k G v70 .un h
theorem g7_1_eq (G : KT1 R) : kgroups PP cfg NN HH 73 o7 [(some (1, true), [2]), (none, [3, 4])] σ h (fun σ h => G .nrm (σ 2) h) = W2 (g7_1 k G) 5 70 σ h := (kgroups_cons (fun σ h => g7_2_eq k σ h G)).trans (by kernel_rfl)
@[simp] def g7_0 (G : KT1 R) (v4 v5 : GV) (h : Heap) := g7_1 k G v5 v4 h
theorem g7_0_eq (G : KT1 R) : kgroups PP cfg NN HH 73 o7 [(none, [0, 1]), (some (1, true), [2]), (none, [3, 4])] σ h (fun σ h => G .nrm (σ 2) h) = W2 (g7_0 k G) 4 5 σ h := (kgroups_cons (fun σ h => g7_1_eq k σ h G)).trans (by kernel_rfl)
@[simp] def n7 (G : KT1 R) (v4 v5 : GV) (h : Heap) := g7_0 k G v4 v5 h
theorem n7_eq (G : KT1 R) : KC k 73 c7 σ h (Q1 G 2) = W2 (n7 k G) 4 5 σ h := (kregion_eq (id := 10) (draw := false) (ops := o7) (gs := [(none, [0, 1]), (some (1, true), [2]), (none, [3, 4])]) (by kernel_rfl) (by kernel_rfl) (by kernel_rfl)).trans (g7_0_eq k σ h G)
@[simp] def n5 (G : KT1 R) (v4 v5 : GV) (h : Heap) := n7 k (fun x v2 h => kx x (n6 k G v2 h) (G x v2 h)) v4 v5 h
theorem n5_eq (G : KT1 R) : KC k 73 c5 σ h (Q1 G 2) = W2 (n5 k G) 4 5 σ h := (kseq (b := c6) rfl (fun σ h => n6_eq k σ h G)).trans (n7_eq k σ h (fun x v2 h => kx x (n6 k G v2 h) (G x v2 h)))
noncomputable def c8 := cL c4
noncomputable def o8 : Array Oper := cO c8
@[simp] def g8_2 {R : Type} (k : Nat) (G : KT3 R) (v2 v4 v63 v67 : GV) (h : Heap) := (kpick v63 (.bool true) v67).bind fun v68 => G .nrm v2 v4 v68 h
theorem g8_2_eq (G : KT3 R) : kgroups PP cfg NN HH 73 o8 [(none, [8, 9])] σ h (fun σ h => G .nrm (σ 2) (σ 4) (σ 5) h) = W4 (g8_2 k G) 2 4 63 67 σ h := by kernel_rfl
@[simp] def g8_1 (G : KT3 R) (v1 v2 v4 v63 : GV) (h : Heap) := bif tr false v63 then (kfa 3 v1).bind fun v64 => (kload1 h v64).bind fun v65 => (klen v65).bind fun v66 => (kbin .eql v66 (.int .i64 0)).bind fun v67 => g8_2 k G v2 v4 v63 v67 h else g8_2 k G v2 v4 v63 .un h
theorem g8_1_eq (G : KT3 R) : kgroups PP cfg NN HH 73 o8 [(some (3, false), [4, 5, 6, 7]), (none, [8, 9])] σ h (fun σ h => G .nrm (σ 2) (σ 4) (σ 5) h) = W4 (g8_1 k G) 1 2 4 63 σ h := (kgroups_cons (fun σ h => g8_2_eq k σ h G)).trans (by kernel_rfl)
@[simp] def g8_0 (G : KT3 R) (v1 v2 v4 : GV) (h : Heap) := (kfa 0 v1).bind fun v60 => (kload1 h v60).bind fun v61 => (kbin .geq v61 (.int .i64 4)).bind fun v62 => g8_1 k G v1 v2 v4 v62 h
theorem g8_0_eq (G : KT3 R) : kgroups PP cfg NN HH 73 o8 [(none, [0, 1, 2, 3]), (some (3, false), [4, 5, 6, 7]), (none, [8, 9])] σ h (fun σ h => G .nrm (σ 2) (σ 4) (σ 5) h) = W3 (g8_0 k G) 1 2 4 σ h := (kgroups_cons (fun σ h => g8_1_eq k σ h G)).trans (by kernel_rfl)
@[simp] def n8 (G : KT3 R) (v1 v2 v4 : GV) (h : Heap) := g8_0 k G v1 v2 v4 h
theorem n8_eq (G : KT3 R) : KC k 73 c8 σ h (Q3 G 2 4 5) = W3 (n8 k G) 1 2 4 σ h := (kregion_eq (id := 9) (draw := false) (ops := o8) (gs := [(none, [0, 1, 2, 3]), (some (3, false), [4, 5, 6, 7]), (none, [8, 9])]) (by kernel_rfl) (by kernel_rfl) (by kernel_rfl)).trans (g8_0_eq k σ h G)
@[simp] def n4 (G : KT1 R) (v1 v2 v4 : GV) (h : Heap) := n8 k (fun x v2 v4 v5 h => kx x (n5 k G v4 v5 h) (G x v2 h)) v1 v2 v4 h
theorem n4_eq (G : KT1 R) : KC k 73 c4 σ h (Q1 G 2) = W3 (n4 k G) 1 2 4 σ h := (kseq (b := c5) rfl (fun σ h => n5_eq k σ h G)).trans (n8_eq k σ h (fun x v2 v4 v5 h => kx x (n5 k G v4 v5 h) (G x v2 h)))
noncomputable def c9 := cL c3
noncomputable def o9 : Array Oper := cO c9
@[simp] def g9_4 {R : Type} (k : Nat) (G : KT3 R) (v1 v2 v49 v58 : GV) (h : Heap) := (kpick v49 (.bool true) v58).bind fun v59 => G .nrm v1 v2 v59 h
theorem g9_4_eq (G : KT3 R) : kgroups PP cfg NN HH 73 o9 [(none, [13, 14])] σ h (fun σ h => G .nrm (σ 1) (σ 2) (σ 4) h) = W4 (g9_4 k G) 1 2 49 58 σ h := by kernel_rfl
@[simp] def g9_3 (G : KT3 R) (v1 v2 v49 v54 v57 : GV) (h : Heap) := bif tr false v49 then (kpick v54 v57 (.bool false)).bind fun v58 => g9_4 k G v1 v2 v49 v58 h else g9_4 k G v1 v2 v49 .un h
theorem g9_3_eq (G : KT3 R) : kgroups PP cfg NN HH 73 o9 [(some (3, false), [12]), (none, [13, 14])] σ h (fun σ h => G .nrm (σ 1) (σ 2) (σ 4) h) = W5 (g9_3 k G) 1 2 49 54 57 σ h := (kgroups_cons (fun σ h => g9_4_eq k σ h G)).trans (by kernel_rfl)
@[simp] def g9_2 (G : KT3 R) (v1 v2 v49 v54 : GV) (h : Heap) := bif tr true v54 then (kfa 2 v1).bind fun v55 => (kload1 h v55).bind fun v56 => (kbin .eql v56 (.int .i64 0)).bind fun v57 => g9_3 k G v1 v2 v49 v54 v57 h else g9_3 k G v1 v2 v49 v54 .un h
theorem g9_2_eq (G : KT3 R) : kgroups PP cfg NN HH 73 o9 [(some (8, true), [9, 10, 11]), (some (3, false), [12]), (none, [13, 14])] σ h (fun σ h => G .nrm (σ 1) (σ 2) (σ 4) h) = W4 (g9_2 k G) 1 2 49 54 σ h := (kgroups_cons (fun σ h => g9_3_eq k σ h G)).trans (by kernel_rfl)
@[simp] def g9_1 (G : KT3 R) (v1 v2 v49 : GV) (h : Heap) := bif tr false v49 then (kfa 1 v1).bind fun v50 => (kload1 h v50).bind fun v51 => (klen v51).bind fun v52 => (kbin .eql v52 (.int .i64 0)).bind fun v53 => g9_2 k G v1 v2 v49 v53 h else g9_2 k G v1 v2 v49 .un h
theorem g9_1_eq (G : KT3 R) : kgroups PP cfg NN HH 73 o9 [(some (3, false), [4, 5, 6, 7, 8]), (some (8, true), [9, 10, 11]), (some (3, false), [12]), (none, [13, 14])] σ h (fun σ h => G .nrm (σ 1) (σ 2) (σ 4) h) = W3 (g9_1 k G) 1 2 49 σ h := (kgroups_cons (fun σ h => g9_2_eq k σ h G)).trans (by kernel_rfl)
@[simp] def g9_0 (G : KT3 R) (v1 v2 : GV) (h : Heap) := (kfa 0 v1).bind fun v46 => (kload1 h v46).bind fun v47 => (kbin .eql v47 (.int .i64 3)).bind fun v48 => g9_1 k G v1 v2 v48 h
theorem g9_0_eq (G : KT3 R) : kgroups PP cfg NN HH 73 o9 [(none, [0, 1, 2, 3]), (some (3, false), [4, 5, 6, 7, 8]), (some (8, true), [9, 10, 11]), (some (3, false), [12]), (none, [13, 14])] σ h (fun σ h => G .nrm (σ 1) (σ 2) (σ 4) h) = W2 (g9_0 k G) 1 2 σ h := (kgroups_cons (fun σ h => g9_1_eq k σ h G)).trans (by kernel_rfl)
@[simp] def n9 (G : KT3 R) (v1 v2 : GV) (h : Heap) := g9_0 k G v1 v2 h
theorem n9_eq (G : KT3 R) : KC k 73 c9 σ h (Q3 G 1 2 4) = W2 (n9 k G) 1 2 σ h := (kregion_eq (id := 8) (draw := false) (ops := o9) (gs := [(none, [0, 1, 2, 3]), (some (3, false), [4, 5, 6, 7, 8]), (some (8, true), [9, 10, 11]), (some (3, false), [12]), (none, [13, 14])]) (by kernel_rfl) (by kernel_rfl) (by kernel_rfl)).trans (g9_0_eq k σ h G)
@[simp] def n3 (G : KT1 R) (v1 v2 : GV) (h : Heap) := n9 k (fun x v1 v2 v4 h => kx x (n4 k G v1 v2 v4 h) (G x v2 h)) v1 v2 h
theorem n3_eq (G : KT1 R) : KC k 73 c3 σ h (Q1 G 2) = W2 (n3 k G) 1 2 σ h := (kseq (b := c4) rfl (fun σ h => n4_eq k σ h G)).trans (n9_eq k σ h (fun x v1 v2 v4 h => kx x (n4 k G v1 v2 v4 h) (G x v2 h)))
noncomputable def c10 := cL c2
noncomputable def c11 := cR c10
noncomputable def c12 := cL c11
noncomputable def c13 := cL c12
noncomputable def c14 := cR c13
noncomputable def c15 := cR c14
@[simp] def n15 {R : Type} (k : Nat) (G : KT3 R) (v1 v2 v3 : GV) (h : Heap) := (kbin .add v3 (.int .i64 1)).bind fun v38 => G .nrm v1 v2 v38 h
theorem n15_eq (G : KT3 R) : KC k 73 c15 σ h (Q3 G 1 2 3) = W3 (n15 k G) 1 2 3 σ h := by kernel_rfl
noncomputable def c16 := cL c14
noncomputable def c17 := cL c16
@[simp] def n17 {R : Type} (k : Nat) (G : KT3 R) (v1 v2 v3 : GV) (h : Heap) := (kfa 1 v1).bind fun v39 => (kload1 h v39).bind fun v40 => (kia 1 v40 v3).bind fun v42 => (kload1 h v42).bind fun v43 => (kN NN fn.spec_l1In [v43, (.int .i64 0), (.int .i64 9999)] h).bind fun v44 => (kun .not v44).bind fun v45 => kcond v45 (G .ret v1 (.bool false) v3 h) (G .nrm v1 v2 v3 h)
theorem n17_eq (G : KT3 R) : KC k 73 c17 σ h (Q3 G 1 2 3) = W3 (n17 k G) 1 2 3 σ h := by kernel_rfl
@[simp] def n16 (G : KT3 R) (v1 v2 v3 : GV) (h : Heap) := n17 k (fun x v1 v2 v3 h => kb 1 x fun x => G x v1 v2 v3 h) v1 v2 v3 h
theorem n16_eq (G : KT3 R) : KC k 73 c16 σ h (Q3 G 1 2 3) = W3 (n16 k G) 1 2 3 σ h := (kblock_eq (a := c17) rfl).trans (n17_eq k σ h (fun x v1 v2 v3 h => kb 1 x fun x => G x v1 v2 v3 h))
@[simp] def n14 (G : KT3 R) (v1 v2 v3 : GV) (h : Heap) := n16 k (fun x v1 v2 v3 h => kx x (n15 k G v1 v2 v3 h) (G x v1 v2 v3 h)) v1 v2 v3 h
theorem n14_eq (G : KT3 R) : KC k 73 c14 σ h (Q3 G 1 2 3) = W3 (n14 k G) 1 2 3 σ h := (kseq (b := c15) rfl (fun σ h => n15_eq k σ h G)).trans (n16_eq k σ h (fun x v1 v2 v3 h => kx x (n15 k G v1 v2 v3 h) (G x v1 v2 v3 h)))
noncomputable def c18 := cL c13
@[simp] def n13 (G : KT3 R) (v1 v2 v3 : GV) (h : Heap) := (kfa 1 v1).bind fun v33 => (kload1 h v33).bind fun v34 => (klen v34).bind fun v35 => (kbin .lss v3 v35).bind fun v36 => kcond v36 (n14 k G v1 v2 v3 h) (G (.ext 0) v1 v2 v3 h)
theorem n13_eq (G : KT3 R) : KC k 73 c13 σ h (Q3 G 1 2 3) = W3 (n13 k G) 1 2 3 σ h := (kseq (a := c18) (b := c14) rfl (fun σ h => n14_eq k σ h G)).trans (by kernel_rfl)
def l12 {R : Type} (k : Nat) (G : KT2 R) : Nat → GV → GV → GV → Heap → Option R
  | 0, _, _, _, _ => none
  | r + 1, v1, v2, v3, h => n13 k (fun x v1 v2 v3 h => kx x (l12 k G r v1 v2 v3 h) (G x v1 v2 h)) v1 v2 v3 h
theorem l12_eq {R : Type} (k : Nat) (G : KT2 R) : ∀ (r : Nat) (σ : GS) (h : Heap), kloop (fun σ h K => KC k 73 c13 σ h K) r σ h (Q2 G 1 2) = l12 k G r (σ 1) (σ 2) (σ 3) h
  | 0, _, _ => rfl
  | r + 1, σ, h => (kloop_eq (fun σ h => l12_eq k G r σ h)).trans (n13_eq k σ h (fun x v1 v2 v3 h => kx x (l12 k G r v1 v2 v3 h) (G x v1 v2 h)))
@[simp] def n12 (G : KT2 R) (v1 v2 v3 : GV) (h : Heap) := l12 k G k v1 v2 v3 h
theorem n12_eq (G : KT2 R) : KC k 73 c12 σ h (Q2 G 1 2) = W3 (n12 k G) 1 2 3 σ h := (kloopc_eq (a := c13) rfl).trans (l12_eq k G k σ h)
@[simp] def n11 (G : KT2 R) (v1 v2 v3 : GV) (h : Heap) := n12 k (fun x v1 v2 h => kb 0 x fun x => G x v1 v2 h) v1 v2 v3 h
theorem n11_eq (G : KT2 R) : KC k 73 c11 σ h (Q2 G 1 2) = W3 (n11 k G) 1 2 3 σ h := (kblock_eq (a := c12) rfl).trans (n12_eq k σ h (fun x v1 v2 h => kb 0 x fun x => G x v1 v2 h))
noncomputable def c19 := cL c10
@[simp] def n10 (G : KT2 R) (v1 v2 : GV) (h : Heap) := n11 k G v1 v2 (.int .i64 0) h
theorem n10_eq (G : KT2 R) : KC k 73 c10 σ h (Q2 G 1 2) = W2 (n10 k G) 1 2 σ h := (kseq (a := c19) (b := c11) rfl (fun σ h => n11_eq k σ h G)).trans (by kernel_rfl)
@[simp] def n2 (G : KT1 R) (v1 v2 : GV) (h : Heap) := n10 k (fun x v1 v2 h => kx x (n3 k G v1 v2 h) (G x v2 h)) v1 v2 h
theorem n2_eq (G : KT1 R) : KC k 73 c2 σ h (Q1 G 2) = W2 (n2 k G) 1 2 σ h := (kseq (b := c3) rfl (fun σ h => n3_eq k σ h G)).trans (n10_eq k σ h (fun x v1 v2 h => kx x (n3 k G v1 v2 h) (G x v2 h)))
noncomputable def c20 := cL c1
noncomputable def c21 := cR c20
@[simp] def n21 {R : Type} (k : Nat) (G : KT2 R) (v1 v2 v31 : GV) (h : Heap) := kcond v31 (G .ret v1 (.bool false) h) (G .nrm v1 v2 h)
theorem n21_eq (G : KT2 R) : KC k 73 c21 σ h (Q2 G 1 2) = W3 (n21 k G) 1 2 31 σ h := by kernel_rfl
noncomputable def c22 := cL c20
noncomputable def o22 : Array Oper := cO c22
@[simp] def g22_8 {R : Type} (k : Nat) (G : KT3 R) (v1 v2 v26 v30 : GV) (h : Heap) := (kpick v26 (.bool true) v30).bind fun v31 => G .nrm v1 v2 v31 h
theorem g22_8_eq (G : KT3 R) : kgroups PP cfg NN HH 73 o22 [(none, [25])] σ h (fun σ h => G .nrm (σ 1) (σ 2) (σ 31) h) = W4 (g22_8 k G) 1 2 26 30 σ h := by kernel_rfl
@[simp] def g22_7 (G : KT3 R) (v1 v2 v26 : GV) (h : Heap) := bif tr false v26 then (kfa 3 v1).bind fun v27 => (kload1 h v27).bind fun v28 => (kN NN fn.spec_l6Runes [v28, (.int .i64 40)] h).bind fun v29 => (kun .not v29).bind fun v30 => g22_8 k G v1 v2 v26 v30 h else g22_8 k G v1 v2 v26 .un h
theorem g22_7_eq (G : KT3 R) : kgroups PP cfg NN HH 73 o22 [(some (20, false), [21, 22, 23, 24]), (none, [25])] σ h (fun σ h => G .nrm (σ 1) (σ 2) (σ 31) h) = W3 (g22_7 k G) 1 2 26 σ h := (kgroups_cons (fun σ h => g22_8_eq k σ h G)).trans (by kernel_rfl)
@[simp] def g22_6 (G : KT3 R) (v1 v2 v16 v24 : GV) (h : Heap) := (kpick v16 (.bool true) v24).bind fun v25 => g22_7 k G v1 v2 v25 h
theorem g22_6_eq (G : KT3 R) : kgroups PP cfg NN HH 73 o22 [(none, [19, 20]), (some (20, false), [21, 22, 23, 24]), (none, [25])] σ h (fun σ h => G .nrm (σ 1) (σ 2) (σ 31) h) = W4 (g22_6 k G) 1 2 16 24 σ h := (kgroups_cons (fun σ h => g22_7_eq k σ h G)).trans (by kernel_rfl)
@[simp] def g22_5 (G : KT3 R) (v1 v2 v16 v20 v23 : GV) (h : Heap) := bif tr false v16 then (kpick v20 v23 (.bool false)).bind fun v24 => g22_6 k G v1 v2 v16 v24 h else g22_6 k G v1 v2 v16 .un h
theorem g22_5_eq (G : KT3 R) : kgroups PP cfg NN HH 73 o22 [(some (10, false), [18]), (none, [19, 20]), (some (20, false), [21, 22, 23, 24]), (none, [25])] σ h (fun σ h => G .nrm (σ 1) (σ 2) (σ 31) h) = W5 (g22_5 k G) 1 2 16 20 23 σ h := (kgroups_cons (fun σ h => g22_6_eq k σ h G)).trans (by kernel_rfl)
@[simp] def g22_4 (G : KT3 R) (v1 v2 v16 v20 : GV) (h : Heap) := bif tr true v20 then (kfa 2 v1).bind fun v21 => (kload1 h v21).bind fun v22 => (kbin .neq v22 (.int .i64 63)).bind fun v23 => g22_5 k G v1 v2 v16 v20 v23 h else g22_5 k G v1 v2 v16 v20 .un h
theorem g22_4_eq (G : KT3 R) : kgroups PP cfg NN HH 73 o22 [(some (14, true), [15, 16, 17]), (some (10, false), [18]), (none, [19, 20]), (some (20, false), [21, 22, 23, 24]), (none, [25])] σ h (fun σ h => G .nrm (σ 1) (σ 2) (σ 31) h) = W4 (g22_4 k G) 1 2 16 20 σ h := (kgroups_cons (fun σ h => g22_5_eq k σ h G)).trans (by kernel_rfl)
@[simp] def g22_3 (G : KT3 R) (v1 v2 v16 : GV) (h : Heap) := bif tr false v16 then (kfa 2 v1).bind fun v17 => (kload1 h v17).bind fun v18 => (kbin .neq v18 (.int .i64 0)).bind fun v19 => g22_4 k G v1 v2 v16 v19 h else g22_4 k G v1 v2 v16 .un h
theorem g22_3_eq (G : KT3 R) : kgroups PP cfg NN HH 73 o22 [(some (10, false), [11, 12, 13, 14]), (some (14, true), [15, 16, 17]), (some (10, false), [18]), (none, [19, 20]), (some (20, false), [21, 22, 23, 24]), (none, [25])] σ h (fun σ h => G .nrm (σ 1) (σ 2) (σ 31) h) = W3 (g22_3 k G) 1 2 16 σ h := (kgroups_cons (fun σ h => g22_4_eq k σ h G)).trans (by kernel_rfl)
@[simp] def g22_2 (G : KT3 R) (v1 v2 v10 v14 : GV) (h : Heap) := (kpick v10 (.bool true) v14).bind fun v15 => g22_3 k G v1 v2 v15 h
theorem g22_2_eq (G : KT3 R) : kgroups PP cfg NN HH 73 o22 [(none, [9, 10]), (some (10, false), [11, 12, 13, 14]), (some (14, true), [15, 16, 17]), (some (10, false), [18]), (none, [19, 20]), (some (20, false), [21, 22, 23, 24]), (none, [25])] σ h (fun σ h => G .nrm (σ 1) (σ 2) (σ 31) h) = W4 (g22_2 k G) 1 2 10 14 σ h := (kgroups_cons (fun σ h => g22_3_eq k σ h G)).trans (by kernel_rfl)
@[simp] def g22_1 (G : KT3 R) (v1 v2 v10 : GV) (h : Heap) := bif tr false v10 then (kfa 1 v1).bind fun v11 => (kload1 h v11).bind fun v12 => (klen v12).bind fun v13 => (kbin .gtr v13 (.int .i64 16)).bind fun v14 => g22_2 k G v1 v2 v10 v14 h else g22_2 k G v1 v2 v10 .un h
theorem g22_1_eq (G : KT3 R) : kgroups PP cfg NN HH 73 o22 [(some (4, false), [5, 6, 7, 8]), (none, [9, 10]), (some (10, false), [11, 12, 13, 14]), (some (14, true), [15, 16, 17]), (some (10, false), [18]), (none, [19, 20]), (some (20, false), [21, 22, 23, 24]), (none, [25])] σ h (fun σ h => G .nrm (σ 1) (σ 2) (σ 31) h) = W3 (g22_1 k G) 1 2 10 σ h := (kgroups_cons (fun σ h => g22_2_eq k σ h G)).trans (by kernel_rfl)
@[simp] def g22_0 (G : KT3 R) (v1 v2 : GV) (h : Heap) := (kfa 0 v1).bind fun v6 => (kload1 h v6).bind fun v7 => (kN NN fn.spec_l1In [v7, (.int .i64 1), (.int .i64 5)] h).bind fun v8 => (kun .not v8).bind fun v9 => g22_1 k G v1 v2 v9 h
theorem g22_0_eq (G : KT3 R) : kgroups PP cfg NN HH 73 o22 [(none, [0, 1, 2, 3, 4]), (some (4, false), [5, 6, 7, 8]), (none, [9, 10]), (some (10, false), [11, 12, 13, 14]), (some (14, true), [15, 16, 17]), (some (10, false), [18]), (none, [19, 20]), (some (20, false), [21, 22, 23, 24]), (none, [25])] σ h (fun σ h => G .nrm (σ 1) (σ 2) (σ 31) h) = W2 (g22_0 k G) 1 2 σ h := (kgroups_cons (fun σ h => g22_1_eq k σ h G)).trans (by kernel_rfl)
@[simp] def n22 (G : KT3 R) (v1 v2 : GV) (h : Heap) := g22_0 k G v1 v2 h
theorem n22_eq (G : KT3 R) : KC k 73 c22 σ h (Q3 G 1 2 31) = W2 (n22 k G) 1 2 σ h := (kregion_eq (id := 1) (draw := false) (ops := o22) (gs := [(none, [0, 1, 2, 3, 4]), (some (4, false), [5, 6, 7, 8]), (none, [9, 10]), (some (10, false), [11, 12, 13, 14]), (some (14, true), [15, 16, 17]), (some (10, false), [18]), (none, [19, 20]), (some (20, false), [21, 22, 23, 24]), (none, [25])]) (by kernel_rfl) (by kernel_rfl) (by kernel_rfl)).trans (g22_0_eq k σ h G)
@[simp] def n20 (G : KT2 R) (v1 v2 : GV) (h : Heap) := n22 k (fun x v1 v2 v31 h => kx x (n21 k G v1 v2 v31 h) (G x v1 v2 h)) v1 v2 h
theorem n20_eq (G : KT2 R) : KC k 73 c20 σ h (Q2 G 1 2) = W2 (n20 k G) 1 2 σ h := (kseq (b := c21) rfl (fun σ h => n21_eq k σ h G)).trans (n22_eq k σ h (fun x v1 v2 v31 h => kx x (n21 k G v1 v2 v31 h) (G x v1 v2 h)))
@[simp] def n1 (G : KT1 R) (v1 v2 : GV) (h : Heap) := n20 k (fun x v1 v2 h => kx x (n2 k G v1 v2 h) (G x v2 h)) v1 v2 h
theorem n1_eq (G : KT1 R) : KC k 73 c1 σ h (Q1 G 2) = W2 (n1 k G) 1 2 σ h := (kseq (b := c2) rfl (fun σ h => n2_eq k σ h G)).trans (n20_eq k σ h (fun x v1 v2 h => kx x (n2 k G v1 v2 h) (G x v2 h)))
noncomputable def c23 := cL c0
@[simp] def n0 (G : KT1 R) (v0 : GV) (h : Heap) := kbox v0 h fun v1 h => n1 k G v1 (.bool false) h
theorem n0_eq (G : KT1 R) : KC k 73 c0 σ h (Q1 G 2) = n0 k G (σ 0) h := (kseq (a := c23) (b := c1) rfl (fun σ h => n1_eq k σ h G)).trans (by kernel_rfl)
def run {R : Type} (k : Nat) (a0 : GV) (h : Heap) (fin : GV → Heap → Option R) : Option R := n0 k (fun x v2 h => kend x (fin v2 h)) a0 h
theorem gives {k : Nat} {a0 : GV} {v : GV} (e : run k a0 [] finN = some v) : NN fn.spec_ParserOk [a0] = some v := nω_of (by kernel_rfl) (((kfun_eq (nt := 73) (c := c0) (show PP.funcs[fn.spec_ParserOk]? = some Try.f92 by kernel_rfl) (by kernel_rfl) (by kernel_rfl) (fun x σ h => by cases x <;> kernel_rfl)).trans (n0_eq k _ [] _)).trans e)
end S.spec_ParserOk
namespace S.slices_Clone_int64
noncomputable def c0 := bodyOf Try.f145
@[simp] def n0 {R : Type} (k : Nat) (G : KT1 R) (v0 : GV) (h : Heap) := (gbinop PP .eql 55 (.tmp 3) (.const (.slice none 0 0)) v0 .nils).bind fun v4 => kcond v4 (G .ret .nils h) ((kapp [(.int .i64 0)] 1 8 .emp v0 h).bind fun r => kr r fun v7 h => G .ret v7 h)
theorem n0_eq (G : KT1 R) : KC k 8 c0 σ h (Q1 G 2) = n0 k G (σ 0) h := by kernel_rfl
def run {R : Type} (k : Nat) (a0 : GV) (h : Heap) (fin : GV → Heap → Option R) : Option R := n0 k (fun x v2 h => kend x (fin v2 h)) a0 h
theorem run_eq {R : Type} (k : Nat) (a0 : GV) (h : Heap) (fin : GV → Heap → Option R) : kfun PP cfg NN HH k fn.slices_Clone_int64 [a0] h fin = run k a0 h fin := (kfun_eq (nt := 8) (c := c0) (show PP.funcs[fn.slices_Clone_int64]? = some Try.f145 by kernel_rfl) (by kernel_rfl) (by kernel_rfl) (fun x σ h => by cases x <;> kernel_rfl)).trans (n0_eq k _ h (fun x v2 h => kend x (fin v2 h)))
theorem gives {k : Nat} {a0 : GV} {b : Nat} {q : GV × List (List GV)} (e : run k a0 [] (finO b) = some q) : OO fn.slices_Clone_int64 [a0] b = some q := oω_of ((run_eq k a0 [] (finO b)).trans e)
end S.slices_Clone_int64
namespace S.spec_l6Step
noncomputable def c0 := bodyOf Try.f165
noncomputable def c1 := cR c0
noncomputable def c2 := cR c1
noncomputable def c3 := cR c2
@[simp] def n3 {R : Type} (k : Nat) (G : KT2 R) (v2 v4 v6 : GV) (h : Heap) := (kloadA 4 h v2).bind fun v100 => (kstore 4 h v4 v100).bind fun h => G .ret v4 v6 h
theorem n3_eq (G : KT2 R) : KC k 102 c3 σ h (Q2 G 4 5) = W3 (n3 k G) 2 4 6 σ h := by kernel_rfl
noncomputable def c4 := cL c2
noncomputable def c5 := cL c4
noncomputable def c6 := cR c5
noncomputable def c7 := cL c6
noncomputable def c8 := cR c7
@[simp] def n8 {R : Type} (k : Nat) (G : KT4 R) (v2 v4 v6 : GV) (h : Heap) := (kloadA 4 h v2).bind fun v35 => (kstore 4 h v4 v35).bind fun h => G .ret v2 v4 v6 v6 h
theorem n8_eq (G : KT4 R) : KC k 102 c8 σ h (Q4 G 2 4 5 6) = W3 (n8 k G) 2 4 6 σ h := by kernel_rfl
noncomputable def c9 := cL c7
noncomputable def c10 := cL c9
noncomputable def c11 := cR c10
noncomputable def c12 := cL c11
noncomputable def c13 := cR c12
@[simp] def n13 {R : Type} (k : Nat) (G : KT4 R) (v2 v4 v5 v6 : GV) (h : Heap) := G .ret v2 v4 v5 v6 h
theorem n13_eq (G : KT4 R) : KC k 102 c13 σ h (Q4 G 2 4 5 6) = W4 (n13 k G) 2 4 5 6 σ h := by kernel_rfl
noncomputable def c14 := cL c12
noncomputable def o14 : Array Oper := cO c14
@[simp] def g14_0 {R : Type} (k : Nat) (G : KT4 R) (v2 v4 v6 : GV) (rs : List Rec) (h : Heap) := kold h fun h0 => (kF false HH fn.spec_l6State [(.int .i64 1)] h).bind fun r => kr r fun v15 h => krs (rs ++ [⟨0, h0.length, h.length, ⟨[(.int .i64 1)].flatMap (kborr h0), []⟩⟩]) fun rs => (kfa 3 v2).bind fun v16 => kold h fun h0 => (kload1 h v16).bind fun v17 => krs (rs ++ [⟨2, h0.length, h.length, ⟨kblk v16, []⟩⟩]) fun rs => (gfill (fun i => [(0, 1), (1, 1), (2, 1), (3, 1), (4, 1)][i]?) [(.int .i64 0), (.int .i64 0), .nils, (.int .i64 0), .nils] [(0, (.int .i64 5)), (4, v17)]).bind fun c => kagg c h fun v18 h => kold h fun h0 => (gfill (fun i => some (i * 5, 5)) (zeros [(.int .i64 0), (.int .i64 0), .nils, (.int .i64 0), .nils] 1) [(0, v18)]).bind fun c => kbs 1 5 c h fun v19 h => krs (rs ++ [⟨4, h0.length, h.length, ⟨[], []⟩⟩]) fun rs => kold h fun h0 => (kstore 4 h v4 v15).bind fun h => krs (rs ++ [⟨5, h0.length, h.length, ⟨[], kblk v4⟩⟩]) fun rs => bif chk [(0, 2), (2, 5), (4, 5)] rs then G .nrm v2 v4 v19 v6 h else none
theorem g14_0_eq (G : KT4 R) (rs : List Rec) (σ : GS) (h : Heap) : kgroupsD PP cfg NN HH 102 o14 [(0, 2), (2, 5), (4, 5)] [(none, [0, 1, 2, 3, 4, 5, 6])] rs σ h (fun rs σ h => bif chk [(0, 2), (2, 5), (4, 5)] rs then G .nrm (σ 2) (σ 4) (σ 5) (σ 6) h else none) = g14_0 k G (σ 2) (σ 4) (σ 6) rs h := by kernel_rfl
@[simp] def n14 (G : KT4 R) (v2 v4 v6 : GV) (h : Heap) := g14_0 k G v2 v4 v6 [] h
theorem n14_eq (G : KT4 R) : KC k 102 c14 σ h (Q4 G 2 4 5 6) = W3 (n14 k G) 2 4 6 σ h := (kregionD_eq (id := 4) (draw := true) (ops := o14) (gs := [(none, [0, 1, 2, 3, 4, 5, 6])]) (bad := [(0, 2), (2, 5), (4, 5)]) (by kernel_rfl) (by kernel_rfl) (by kernel_rfl) (by kernel_rfl) (by kernel_rfl)).trans (g14_0_eq k G [] σ h)
@[simp] def n12 (G : KT4 R) (v2 v4 v6 : GV) (h : Heap) := n14 k (fun x v2 v4 v5 v6 h => kx x (n13 k G v2 v4 v5 v6 h) (G x v2 v4 v5 v6 h)) v2 v4 v6 h
theorem n12_eq (G : KT4 R) : KC k 102 c12 σ h (Q4 G 2 4 5 6) = W3 (n12 k G) 2 4 6 σ h := (kseq (b := c13) rfl (fun σ h => n13_eq k σ h G)).trans (n14_eq k σ h (fun x v2 v4 v5 v6 h => kx x (n13 k G v2 v4 v5 v6 h) (G x v2 v4 v5 v6 h)))
noncomputable def c15 := cR c11
@[simp] def n15 {R : Type} (k : Nat) (G : KT4 R) (v1 v2 v4 v5 v6 : GV) (h : Heap) := (kbin .eql v1 (.int .i64 27)).bind fun v22 => kcond v22 ((kfa 0 v2).bind fun v23 => (kstore 1 h v23 (.int .i64 5)).bind fun h => G .nrm v2 v4 v5 v6 h) ((kfa 3 v2).bind fun v25 => (kload1 h v25).bind fun v26 => (klen v26).bind fun v27 => (kbin .lss v27 (.int .i64 40)).bind fun v28 => kcond v28 ((kfa 3 v2).bind fun v29 => (kload1 h v29).bind fun v30 => (gfill (fun i => some (i * 1, 1)) (zeros [(.int .i64 0)] 1) [(0, v1)]).bind fun c => kbs 1 1 c h fun v32 h => (kapp [(.int .i64 0)] 1 8 v30 v32 h).bind fun r => kr r fun v33 h => (kfa 3 v2).bind fun v34 => (kstore 1 h v34 v33).bind fun h => G .nrm v2 v4 v5 v6 h) (G .nrm v2 v4 v5 v6 h))
theorem n15_eq (G : KT4 R) : KC k 102 c15 σ h (Q4 G 2 4 5 6) = W5 (n15 k G) 1 2 4 5 6 σ h := by kernel_rfl
@[simp] def n11 (G : KT4 R) (v1 v2 v4 v5 v6 v12 : GV) (h : Heap) := kcond v12 (n12 k G v2 v4 v6 h) (n15 k G v1 v2 v4 v5 v6 h)
theorem n11_eq (G : KT4 R) : KC k 102 c11 σ h (Q4 G 2 4 5 6) = W6 (n11 k G) 1 2 4 5 6 12 σ h := (kcond_eq (a := c12) (b := c15) rfl (by rfl)).trans (congr (congrArg (kcond (σ 12)) (n12_eq k σ h G)) (n15_eq k σ h G))
noncomputable def c16 := cL c10
@[simp] def n10 (G : KT4 R) (v1 v2 v4 v5 v6 : GV) (h : Heap) := (kbin .eql v1 (.int .i64 7)).bind fun v14 => n11 k G v1 v2 v4 v5 v6 v14 h
theorem n10_eq (G : KT4 R) : KC k 102 c10 σ h (Q4 G 2 4 5 6) = W5 (n10 k G) 1 2 4 5 6 σ h := (kseq (a := c16) (b := c11) rfl (fun σ h => n11_eq k σ h G)).trans (by kernel_rfl)
@[simp] def n9 (G : KT4 R) (v1 v2 v4 v5 v6 : GV) (h : Heap) := n10 k (fun x v2 v4 v5 v6 h => kb 1 x fun x => G x v2 v4 v5 v6 h) v1 v2 v4 v5 v6 h
theorem n9_eq (G : KT4 R) : KC k 102 c9 σ h (Q4 G 2 4 5 6) = W5 (n9 k G) 1 2 4 5 6 σ h := (kblock_eq (a := c10) rfl).trans (n10_eq k σ h (fun x v2 v4 v5 v6 h => kb 1 x fun x => G x v2 v4 v5 v6 h))
@[simp] def n7 (G : KT4 R) (v1 v2 v4 v5 v6 : GV) (h : Heap) := n9 k (fun x v2 v4 v5 v6 h => kx x (n8 k G v2 v4 v6 h) (G x v2 v4 v5 v6 h)) v1 v2 v4 v5 v6 h
theorem n7_eq (G : KT4 R) : KC k 102 c7 σ h (Q4 G 2 4 5 6) = W5 (n7 k G) 1 2 4 5 6 σ h := (kseq (b := c8) rfl (fun σ h => n8_eq k σ h G)).trans (n9_eq k σ h (fun x v2 v4 v5 v6 h => kx x (n8 k G v2 v4 v6 h) (G x v2 v4 v5 v6 h)))
noncomputable def c17 := cR c6
noncomputable def c18 := cR c17
noncomputable def c19 := cL c18
noncomputable def c20 := cR c19
@[simp] def n20 {R : Type} (k : Nat) (G : KT4 R) (v2 v4 v6 : GV) (h : Heap) := (kF false HH fn.spec_l6State [(.int .i64 1)] h).bind fun r => kr r fun v48 h => (kstore 4 h v4 v48).bind fun h => G .ret v2 v4 v6 v6 h
theorem n20_eq (G : KT4 R) : KC k 102 c20 σ h (Q4 G 2 4 5 6) = W3 (n20 k G) 2 4 6 σ h := by kernel_rfl
noncomputable def c21 := cL c19
noncomputable def c22 := cR c21
noncomputable def c23 := cL c22
noncomputable def c24 := cR c23
@[simp] def n24 {R : Type} (k : Nat) (G : KT4 R) (v2 v4 v5 v6 : GV) (h : Heap) := G .ret v2 v4 v5 v6 h
theorem n24_eq (G : KT4 R) : KC k 102 c24 σ h (Q4 G 2 4 5 6) = W4 (n24 k G) 2 4 5 6 σ h := by kernel_rfl
noncomputable def c25 := cL c23
noncomputable def o25 : Array Oper := cO c25
@[simp] def g25_0 {R : Type} (k : Nat) (G : KT4 R) (v2 v4 v6 : GV) (rs : List Rec) (h : Heap) := kold h fun h0 => (kF false HH fn.spec_l6State [(.int .i64 1)] h).bind fun r => kr r fun v43 h => krs (rs ++ [⟨0, h0.length, h.length, ⟨[(.int .i64 1)].flatMap (kborr h0), []⟩⟩]) fun rs => (kfa 3 v2).bind fun v44 => kold h fun h0 => (kload1 h v44).bind fun v45 => krs (rs ++ [⟨2, h0.length, h.length, ⟨kblk v44, []⟩⟩]) fun rs => (gfill (fun i => [(0, 1), (1, 1), (2, 1), (3, 1), (4, 1)][i]?) [(.int .i64 0), (.int .i64 0), .nils, (.int .i64 0), .nils] [(0, (.int .i64 5)), (4, v45)]).bind fun c => kagg c h fun v46 h => kold h fun h0 => (gfill (fun i => some (i * 5, 5)) (zeros [(.int .i64 0), (.int .i64 0), .nils, (.int .i64 0), .nils] 1) [(0, v46)]).bind fun c => kbs 1 5 c h fun v47 h => krs (rs ++ [⟨4, h0.length, h.length, ⟨[], []⟩⟩]) fun rs => kold h fun h0 => (kstore 4 h v4 v43).bind fun h => krs (rs ++ [⟨5, h0.length, h.length, ⟨[], kblk v4⟩⟩]) fun rs => bif chk [(0, 2), (2, 5), (4, 5)] rs then G .nrm v2 v4 v47 v6 h else none
theorem g25_0_eq (G : KT4 R) (rs : List Rec) (σ : GS) (h : Heap) : kgroupsD PP cfg NN HH 102 o25 [(0, 2), (2, 5), (4, 5)] [(none, [0, 1, 2, 3, 4, 5, 6])] rs σ h (fun rs σ h => bif chk [(0, 2), (2, 5), (4, 5)] rs then G .nrm (σ 2) (σ 4) (σ 5) (σ 6) h else none) = g25_0 k G (σ 2) (σ 4) (σ 6) rs h := by kernel_rfl
@[simp] def n25 (G : KT4 R) (v2 v4 v6 : GV) (h : Heap) := g25_0 k G v2 v4 v6 [] h
theorem n25_eq (G : KT4 R) : KC k 102 c25 σ h (Q4 G 2 4 5 6) = W3 (n25 k G) 2 4 6 σ h := (kregionD_eq (id := 12) (draw := true) (ops := o25) (gs := [(none, [0, 1, 2, 3, 4, 5, 6])]) (bad := [(0, 2), (2, 5), (4, 5)]) (by kernel_rfl) (by kernel_rfl) (by kernel_rfl) (by kernel_rfl) (by kernel_rfl)).trans (g25_0_eq k G [] σ h)
@[simp] def n23 (G : KT4 R) (v2 v4 v6 : GV) (h : Heap) := n25 k (fun x v2 v4 v5 v6 h => kx x (n24 k G v2 v4 v5 v6 h) (G x v2 v4 v5 v6 h)) v2 v4 v6 h
theorem n23_eq (G : KT4 R) : KC k 102 c23 σ h (Q4 G 2 4 5 6) = W3 (n23 k G) 2 4 6 σ h := (kseq (b := c24) rfl (fun σ h => n24_eq k σ h G)).trans (n25_eq k σ h (fun x v2 v4 v5 v6 h => kx x (n24 k G v2 v4 v5 v6 h) (G x v2 v4 v5 v6 h)))
noncomputable def c26 := cR c22
@[simp] def n26 {R : Type} (k : Nat) (G : KT4 R) (v2 v4 v5 v6 : GV) (h : Heap) := G .nrm v2 v4 v5 v6 h
theorem n26_eq (G : KT4 R) : KC k 102 c26 σ h (Q4 G 2 4 5 6) = W4 (n26 k G) 2 4 5 6 σ h := by kernel_rfl
@[simp] def n22 (G : KT4 R) (v2 v4 v5 v6 v42 : GV) (h : Heap) := kcond v42 (n23 k G v2 v4 v6 h) (n26 k G v2 v4 v5 v6 h)
theorem n22_eq (G : KT4 R) : KC k 102 c22 σ h (Q4 G 2 4 5 6) = W5 (n22 k G) 2 4 5 6 42 σ h := (kcond_eq (a := c23) (b := c26) rfl (by rfl)).trans (congr (congrArg (kcond (σ 42)) (n23_eq k σ h G)) (n26_eq k σ h G))
noncomputable def c27 := cL c21
@[simp] def n21 (G : KT4 R) (v1 v2 v4 v5 v6 : GV) (h : Heap) := (kbin .eql v1 (.int .i64 92)).bind fun v42 => n22 k G v2 v4 v5 v6 v42 h
theorem n21_eq (G : KT4 R) : KC k 102 c21 σ h (Q4 G 2 4 5 6) = W5 (n21 k G) 1 2 4 5 6 σ h := (kseq (a := c27) (b := c22) rfl (fun σ h => n22_eq k σ h G)).trans (by kernel_rfl)
@[simp] def n19 (G : KT4 R) (v1 v2 v4 v5 v6 : GV) (h : Heap) := n21 k (fun x v2 v4 v5 v6 h => kx x (n20 k G v2 v4 v6 h) (G x v2 v4 v5 v6 h)) v1 v2 v4 v5 v6 h
theorem n19_eq (G : KT4 R) : KC k 102 c19 σ h (Q4 G 2 4 5 6) = W5 (n19 k G) 1 2 4 5 6 σ h := (kseq (b := c20) rfl (fun σ h => n20_eq k σ h G)).trans (n21_eq k σ h (fun x v2 v4 v5 v6 h => kx x (n20 k G v2 v4 v6 h) (G x v2 v4 v5 v6 h)))
noncomputable def c28 := cR c18
noncomputable def c29 := cR c28
noncomputable def c30 := cL c29
@[simp] def n30 {R : Type} (k : Nat) (G : KT4 R) (v2 v4 v6 : GV) (h : Heap) := (kF false HH fn.spec_l6State [(.int .i64 2)] h).bind fun r => kr r fun v53 h => (kstore 4 h v4 v53).bind fun h => G .ret v2 v4 v6 v6 h
theorem n30_eq (G : KT4 R) : KC k 102 c30 σ h (Q4 G 2 4 5 6) = W3 (n30 k G) 2 4 6 σ h := by kernel_rfl
noncomputable def c31 := cR c29
noncomputable def c32 := cR c31
noncomputable def c33 := cL c32
@[simp] def n33 {R : Type} (k : Nat) (G : KT4 R) (v2 v4 v6 : GV) (h : Heap) := (kF false HH fn.spec_l6State [(.int .i64 1)] h).bind fun r => kr r fun v62 h => (kstore 4 h v4 v62).bind fun h => G .ret v2 v4 v6 v6 h
theorem n33_eq (G : KT4 R) : KC k 102 c33 σ h (Q4 G 2 4 5 6) = W3 (n33 k G) 2 4 6 σ h := by kernel_rfl
noncomputable def c34 := cR c32
noncomputable def c35 := cR c34
@[simp] def n35 {R : Type} (k : Nat) (G : KT4 R) (v1 v2 v4 v5 v6 v64 : GV) (h : Heap) := kcond v64 ((kloadA 4 h v2).bind fun v71 => (gfill (fun i => [(0, 1), (1, 1), (2, 1), (3, 1), (4, 1)][i]?) [(.int .i64 0), (.int .i64 0), .nils, (.int .i64 0), .nils] [(0, (.int .i64 2)), (1, v1)]).bind fun c => kagg c h fun v73 h => (gfill (fun i => some (i * 5, 5)) (zeros [(.int .i64 0), (.int .i64 0), .nils, (.int .i64 0), .nils] 1) [(0, v73)]).bind fun c => kbs 1 5 c h fun v74 h => (kstore 4 h v4 v71).bind fun h => G .ret v2 v4 v74 v6 h) ((kfa 0 v2).bind fun v76 => (kload1 h v76).bind fun v77 => (kbin .eql v77 (.int .i64 2)).bind fun v78 => kcond v78 ((HH fn.spec_l6Escape [v1] h).bind fun r => kr r fun v80 h => (kxt 0 v80).bind fun v81 => (kxt 1 v80).bind fun v82 => (kstore 4 h v4 v81).bind fun h => G .ret v2 v4 v82 v6 h) ((kfa 0 v2).bind fun v84 => (kload1 h v84).bind fun v85 => (kbin .eql v85 (.int .i64 3)).bind fun v86 => kcond v86 ((kloadA 4 h v2).bind fun v87 => (HH fn.spec_l6List [v87, v1] h).bind fun r => kr r fun v89 h => (kxt 0 v89).bind fun v90 => (kxt 1 v89).bind fun v91 => (kstore 4 h v4 v90).bind fun h => G .ret v2 v4 v91 v6 h) ((kN NN fn.spec_Width [v1] h).bind fun v94 => (kbin .gtr v94 (.int .i64 0)).bind fun v95 => kcond v95 ((kloadA 4 h v2).bind fun v96 => (gfill (fun i => [(0, 1), (1, 1), (2, 1), (3, 1), (4, 1)][i]?) [(.int .i64 0), (.int .i64 0), .nils, (.int .i64 0), .nils] [(0, (.int .i64 1)), (1, v1)]).bind fun c => kagg c h fun v98 h => (gfill (fun i => some (i * 5, 5)) (zeros [(.int .i64 0), (.int .i64 0), .nils, (.int .i64 0), .nils] 1) [(0, v98)]).bind fun c => kbs 1 5 c h fun v99 h => (kstore 4 h v4 v96).bind fun h => G .ret v2 v4 v99 v6 h) (G .nrm v2 v4 v5 v6 h))))
theorem n35_eq (G : KT4 R) : KC k 102 c35 σ h (Q4 G 2 4 5 6) = W6 (n35 k G) 1 2 4 5 6 64 σ h := by kernel_rfl
noncomputable def c36 := cL c34
noncomputable def o36 : Array Oper := cO c36
@[simp] def g36_2 {R : Type} (k : Nat) (G : KT6 R) (v1 v2 v4 v5 v6 v67 v69 : GV) (h : Heap) := (kpick v67 (.bool true) v69).bind fun v70 => G .nrm v1 v2 v4 v5 v6 v70 h
theorem g36_2_eq (G : KT6 R) : kgroups PP cfg NN HH 102 o36 [(none, [5, 6])] σ h (fun σ h => G .nrm (σ 1) (σ 2) (σ 4) (σ 5) (σ 6) (σ 64) h) = W7 (g36_2 k G) 1 2 4 5 6 67 69 σ h := by kernel_rfl
@[simp] def g36_1 (G : KT6 R) (v1 v2 v4 v5 v6 v67 : GV) (h : Heap) := bif tr false v67 then (kbin .eql v1 (.int .i64 127)).bind fun v69 => g36_2 k G v1 v2 v4 v5 v6 v67 v69 h else g36_2 k G v1 v2 v4 v5 v6 v67 .un h
theorem g36_1_eq (G : KT6 R) : kgroups PP cfg NN HH 102 o36 [(some (2, false), [3, 4]), (none, [5, 6])] σ h (fun σ h => G .nrm (σ 1) (σ 2) (σ 4) (σ 5) (σ 6) (σ 64) h) = W6 (g36_1 k G) 1 2 4 5 6 67 σ h := (kgroups_cons (fun σ h => g36_2_eq k σ h G)).trans (by kernel_rfl)
@[simp] def g36_0 (G : KT6 R) (v1 v2 v4 v5 v6 : GV) (h : Heap) := (kbin .lss v1 (.int .i64 32)).bind fun v66 => g36_1 k G v1 v2 v4 v5 v6 v66 h
theorem g36_0_eq (G : KT6 R) : kgroups PP cfg NN HH 102 o36 [(none, [0, 1, 2]), (some (2, false), [3, 4]), (none, [5, 6])] σ h (fun σ h => G .nrm (σ 1) (σ 2) (σ 4) (σ 5) (σ 6) (σ 64) h) = W5 (g36_0 k G) 1 2 4 5 6 σ h := (kgroups_cons (fun σ h => g36_1_eq k σ h G)).trans (by kernel_rfl)
@[simp] def n36 (G : KT6 R) (v1 v2 v4 v5 v6 : GV) (h : Heap) := g36_0 k G v1 v2 v4 v5 v6 h
theorem n36_eq (G : KT6 R) : KC k 102 c36 σ h (Q6 G 1 2 4 5 6 64) = W5 (n36 k G) 1 2 4 5 6 σ h := (kregion_eq (id := 18) (draw := false) (ops := o36) (gs := [(none, [0, 1, 2]), (some (2, false), [3, 4]), (none, [5, 6])]) (by kernel_rfl) (by kernel_rfl) (by kernel_rfl)).trans (g36_0_eq k σ h G)
@[simp] def n34 (G : KT4 R) (v1 v2 v4 v5 v6 : GV) (h : Heap) := n36 k (fun x v1 v2 v4 v5 v6 v64 h => kx x (n35 k G v1 v2 v4 v5 v6 v64 h) (G x v2 v4 v5 v6 h)) v1 v2 v4 v5 v6 h
theorem n34_eq (G : KT4 R) : KC k 102 c34 σ h (Q4 G 2 4 5 6) = W5 (n34 k G) 1 2 4 5 6 σ h := (kseq (b := c35) rfl (fun σ h => n35_eq k σ h G)).trans (n36_eq k σ h (fun x v1 v2 v4 v5 v6 v64 h => kx x (n35 k G v1 v2 v4 v5 v6 v64 h) (G x v2 v4 v5 v6 h)))
@[simp] def n32 (G : KT4 R) (v1 v2 v4 v5 v6 v55 : GV) (h : Heap) := kcond v55 (n33 k G v2 v4 v6 h) (n34 k G v1 v2 v4 v5 v6 h)
theorem n32_eq (G : KT4 R) : KC k 102 c32 σ h (Q4 G 2 4 5 6) = W6 (n32 k G) 1 2 4 5 6 55 σ h := (kcond_eq (a := c33) (b := c34) rfl (by rfl)).trans (congr (congrArg (kcond (σ 55)) (n33_eq k σ h G)) (n34_eq k σ h G))
noncomputable def c37 := cL c31
noncomputable def o37 : Array Oper := cO c37
@[simp] def g37_2 {R : Type} (k : Nat) (G : KT6 R) (v1 v2 v4 v5 v6 v58 v60 : GV) (h : Heap) := (kpick v58 (.bool true) v60).bind fun v61 => G .nrm v1 v2 v4 v5 v6 v61 h
theorem g37_2_eq (G : KT6 R) : kgroups PP cfg NN HH 102 o37 [(none, [5, 6])] σ h (fun σ h => G .nrm (σ 1) (σ 2) (σ 4) (σ 5) (σ 6) (σ 55) h) = W7 (g37_2 k G) 1 2 4 5 6 58 60 σ h := by kernel_rfl
@[simp] def g37_1 (G : KT6 R) (v1 v2 v4 v5 v6 v58 : GV) (h : Heap) := bif tr false v58 then (kbin .eql v1 (.int .i64 26)).bind fun v60 => g37_2 k G v1 v2 v4 v5 v6 v58 v60 h else g37_2 k G v1 v2 v4 v5 v6 v58 .un h
theorem g37_1_eq (G : KT6 R) : kgroups PP cfg NN HH 102 o37 [(some (2, false), [3, 4]), (none, [5, 6])] σ h (fun σ h => G .nrm (σ 1) (σ 2) (σ 4) (σ 5) (σ 6) (σ 55) h) = W6 (g37_1 k G) 1 2 4 5 6 58 σ h := (kgroups_cons (fun σ h => g37_2_eq k σ h G)).trans (by kernel_rfl)
@[simp] def g37_0 (G : KT6 R) (v1 v2 v4 v5 v6 : GV) (h : Heap) := (kbin .eql v1 (.int .i64 24)).bind fun v57 => g37_1 k G v1 v2 v4 v5 v6 v57 h
theorem g37_0_eq (G : KT6 R) : kgroups PP cfg NN HH 102 o37 [(none, [0, 1, 2]), (some (2, false), [3, 4]), (none, [5, 6])] σ h (fun σ h => G .nrm (σ 1) (σ 2) (σ 4) (σ 5) (σ 6) (σ 55) h) = W5 (g37_0 k G) 1 2 4 5 6 σ h := (kgroups_cons (fun σ h => g37_1_eq k σ h G)).trans (by kernel_rfl)
@[simp] def n37 (G : KT6 R) (v1 v2 v4 v5 v6 : GV) (h : Heap) := g37_0 k G v1 v2 v4 v5 v6 h
theorem n37_eq (G : KT6 R) : KC k 102 c37 σ h (Q6 G 1 2 4 5 6 55) = W5 (n37 k G) 1 2 4 5 6 σ h := (kregion_eq (id := 16) (draw := false) (ops := o37) (gs := [(none, [0, 1, 2]), (some (2, false), [3, 4]), (none, [5, 6])]) (by kernel_rfl) (by kernel_rfl) (by kernel_rfl)).trans (g37_0_eq k σ h G)
@[simp] def n31 (G : KT4 R) (v1 v2 v4 v5 v6 : GV) (h : Heap) := n37 k (fun x v1 v2 v4 v5 v6 v55 h => kx x (n32 k G v1 v2 v4 v5 v6 v55 h) (G x v2 v4 v5 v6 h)) v1 v2 v4 v5 v6 h
theorem n31_eq (G : KT4 R) : KC k 102 c31 σ h (Q4 G 2 4 5 6) = W5 (n31 k G) 1 2 4 5 6 σ h := (kseq (b := c32) rfl (fun σ h => n32_eq k σ h G)).trans (n37_eq k σ h (fun x v1 v2 v4 v5 v6 v55 h => kx x (n32 k G v1 v2 v4 v5 v6 v55 h) (G x v2 v4 v5 v6 h)))
@[simp] def n29 (G : KT4 R) (v1 v2 v4 v5 v6 v50 : GV) (h : Heap) := kcond v50 (n30 k G v2 v4 v6 h) (n31 k G v1 v2 v4 v5 v6 h)
theorem n29_eq (G : KT4 R) : KC k 102 c29 σ h (Q4 G 2 4 5 6) = W6 (n29 k G) 1 2 4 5 6 50 σ h := (kcond_eq (a := c30) (b := c31) rfl (by rfl)).trans (congr (congrArg (kcond (σ 50)) (n30_eq k σ h G)) (n31_eq k σ h G))
noncomputable def c38 := cL c28
@[simp] def n28 (G : KT4 R) (v1 v2 v4 v5 v6 : GV) (h : Heap) := (kbin .eql v1 (.int .i64 27)).bind fun v52 => n29 k G v1 v2 v4 v5 v6 v52 h
theorem n28_eq (G : KT4 R) : KC k 102 c28 σ h (Q4 G 2 4 5 6) = W5 (n28 k G) 1 2 4 5 6 σ h := (kseq (a := c38) (b := c29) rfl (fun σ h => n29_eq k σ h G)).trans (by kernel_rfl)
@[simp] def n18 (G : KT4 R) (v1 v2 v4 v5 v6 v37 : GV) (h : Heap) := kcond v37 (n19 k G v1 v2 v4 v5 v6 h) (n28 k G v1 v2 v4 v5 v6 h)
theorem n18_eq (G : KT4 R) : KC k 102 c18 σ h (Q4 G 2 4 5 6) = W6 (n18 k G) 1 2 4 5 6 37 σ h := (kcond_eq (a := c19) (b := c28) rfl (by rfl)).trans (congr (congrArg (kcond (σ 37)) (n19_eq k σ h G)) (n28_eq k σ h G))
noncomputable def c39 := cL c17
@[simp] def n17 (G : KT4 R) (v1 v2 v4 v5 v6 : GV) (h : Heap) := (kfa 0 v2).bind fun v38 => (kload1 h v38).bind fun v39 => (kbin .eql v39 (.int .i64 5)).bind fun v40 => n18 k G v1 v2 v4 v5 v6 v40 h
theorem n17_eq (G : KT4 R) : KC k 102 c17 σ h (Q4 G 2 4 5 6) = W5 (n17 k G) 1 2 4 5 6 σ h := (kseq (a := c39) (b := c18) rfl (fun σ h => n18_eq k σ h G)).trans (by kernel_rfl)
@[simp] def n6 (G : KT4 R) (v1 v2 v4 v5 v6 v8 : GV) (h : Heap) := kcond v8 (n7 k G v1 v2 v4 v5 v6 h) (n17 k G v1 v2 v4 v5 v6 h)
theorem n6_eq (G : KT4 R) : KC k 102 c6 σ h (Q4 G 2 4 5 6) = W6 (n6 k G) 1 2 4 5 6 8 σ h := (kcond_eq (a := c7) (b := c17) rfl (by rfl)).trans (congr (congrArg (kcond (σ 8)) (n7_eq k σ h G)) (n17_eq k σ h G))
noncomputable def c40 := cL c5
@[simp] def n5 (G : KT4 R) (v1 v2 v4 v5 v6 : GV) (h : Heap) := (kfa 0 v2).bind fun v9 => (kload1 h v9).bind fun v10 => (kbin .eql v10 (.int .i64 4)).bind fun v11 => n6 k G v1 v2 v4 v5 v6 v11 h
theorem n5_eq (G : KT4 R) : KC k 102 c5 σ h (Q4 G 2 4 5 6) = W5 (n5 k G) 1 2 4 5 6 σ h := (kseq (a := c40) (b := c6) rfl (fun σ h => n6_eq k σ h G)).trans (by kernel_rfl)
@[simp] def n4 (G : KT4 R) (v1 v2 v4 v5 v6 : GV) (h : Heap) := n5 k (fun x v2 v4 v5 v6 h => kb 0 x fun x => G x v2 v4 v5 v6 h) v1 v2 v4 v5 v6 h
theorem n4_eq (G : KT4 R) : KC k 102 c4 σ h (Q4 G 2 4 5 6) = W5 (n4 k G) 1 2 4 5 6 σ h := (kblock_eq (a := c5) rfl).trans (n5_eq k σ h (fun x v2 v4 v5 v6 h => kb 0 x fun x => G x v2 v4 v5 v6 h))
@[simp] def n2 (G : KT2 R) (v1 v2 v4 v5 v6 : GV) (h : Heap) := n4 k (fun x v2 v4 v5 v6 h => kx x (n3 k G v2 v4 v6 h) (G x v4 v5 h)) v1 v2 v4 v5 v6 h
theorem n2_eq (G : KT2 R) : KC k 102 c2 σ h (Q2 G 4 5) = W5 (n2 k G) 1 2 4 5 6 σ h := (kseq (b := c3) rfl (fun σ h => n3_eq k σ h G)).trans (n4_eq k σ h (fun x v2 v4 v5 v6 h => kx x (n3 k G v2 v4 v6 h) (G x v4 v5 h)))
noncomputable def c41 := cL c1
@[simp] def n1 (G : KT2 R) (v1 v2 v4 v5 : GV) (h : Heap) := n2 k G v1 v2 v4 v5 .emp h
theorem n1_eq (G : KT2 R) : KC k 102 c1 σ h (Q2 G 4 5) = W4 (n1 k G) 1 2 4 5 σ h := (kseq (a := c41) (b := c2) rfl (fun σ h => n2_eq k σ h G)).trans (by kernel_rfl)
noncomputable def c42 := cL c0
@[simp] def n0 (G : KT2 R) (v0 v1 : GV) (h : Heap) := kbox v0 h fun v2 h => kalloc [(.int .i64 0), .nils, (.int .i64 0), .nils] h fun v4 h => n1 k G v1 v2 v4 .nils h
theorem n0_eq (G : KT2 R) : KC k 102 c0 σ h (Q2 G 4 5) = W2 (n0 k G) 0 1 σ h := (kseq (a := c42) (b := c1) rfl (fun σ h => n1_eq k σ h G)).trans (by kernel_rfl)
def run {R : Type} (k : Nat) (a0 a1 : GV) (h : Heap) (fin : GV → Heap → Option R) : Option R := n0 k (fun x v4 v5 h => kend x ((kloadA 4 h v4).bind fun w4 => fin (.tup [w4, v5]) h)) a0 a1 h
theorem gives {k : Nat} {a0 a1 : GV} {h : Heap} {r : GV × Heap} (e : run k a0 a1 h finH = some r) : HH fn.spec_l6Step [a0, a1] h = some r := kω_of (((kfun_eq (nt := 102) (c := c0) (show PP.funcs[fn.spec_l6Step]? = some Try.f165 by kernel_rfl) (by kernel_rfl) (by kernel_rfl) (fun x σ h => by cases x <;> kernel_rfl)).trans (n0_eq k _ h _)).trans e)
end S.spec_l6Step
namespace S.spec_l6Copy
noncomputable def c0 := bodyOf Try.f166
@[simp] def n0 {R : Type} (k : Nat) (G : KT1 R) (v0 : GV) (h : Heap) := kbox v0 h fun v1 h => kalloc [(.int .i64 0), .nils, (.int .i64 0), .nils] h fun v2 h => (kfa 1 v1).bind fun v4 => (kload1 h v4).bind fun v5 => (kapp [(.int .i64 0)] 1 8 .emp v5 h).bind fun r => kr r fun v6 h => (kfa 1 v1).bind fun v7 => (kstore 1 h v7 v6).bind fun h => (kfa 3 v1).bind fun v9 => (kload1 h v9).bind fun v10 => (kapp [(.int .i64 0)] 1 8 .emp v10 h).bind fun r => kr r fun v11 h => (kfa 3 v1).bind fun v12 => (kstore 1 h v12 v11).bind fun h => (kloadA 4 h v1).bind fun v13 => (kstore 4 h v2 v13).bind fun h => G .ret v2 h
theorem n0_eq (G : KT1 R) : KC k 14 c0 σ h (Q1 G 2) = n0 k G (σ 0) h := by kernel_rfl
def run {R : Type} (k : Nat) (a0 : GV) (h : Heap) (fin : GV → Heap → Option R) : Option R := n0 k (fun x v2 h => kend x ((kloadA 4 h v2).bind fun w2 => fin w2 h)) a0 h
theorem gives {k : Nat} {a0 : GV} {b : Nat} {q : GV × List (List GV)} (e : run k a0 [] (finO b) = some q) : OO fn.spec_l6Copy [a0] b = some q := oω_of (((kfun_eq (nt := 14) (c := c0) (show PP.funcs[fn.spec_l6Copy]? = some Try.f166 by kernel_rfl) (by kernel_rfl) (by kernel_rfl) (fun x σ h => by cases x <;> kernel_rfl)).trans (n0_eq k _ [] _)).trans e)
end S.spec_l6Copy
namespace S.impl_parsed
noncomputable def c0 := bodyOf Try.f167
noncomputable def c1 := cR c0
noncomputable def c2 := cR c1
noncomputable def c3 := cR c2
noncomputable def c4 := cR c3
@[simp] def n4 {R : Type} (k : Nat) (G : KT2 R) (v4 v6 v7 : GV) (h : Heap) := (kloadA 4 h v6).bind fun v32 => (kF false HH fn.impl_Parser_copied [v32] h).bind fun r => kr r fun v33 h => (kstore 4 h v4 v33).bind fun h => G .ret v4 v7 h
theorem n4_eq (G : KT2 R) : KC k 35 c4 σ h (Q2 G 4 5) = W3 (n4 k G) 4 6 7 σ h := by kernel_rfl
noncomputable def c5 := cL c3
noncomputable def c6 := cR c5
noncomputable def c7 := cL c6
noncomputable def c8 := cL c7
noncomputable def c9 := cR c8
noncomputable def c10 := cR c9
noncomputable def c11 := cR c10
@[simp] def n11 {R : Type} (k : Nat) (G : KT7 R) (v4 v5 v6 v7 v21 v22 v23 : GV) (h : Heap) := (kbin .add v23 (.int .i64 1)).bind fun v31 => G .nrm v4 v5 v6 v7 v21 v22 v31 h
theorem n11_eq (G : KT7 R) : KC k 35 c11 σ h (Q7 G 4 5 6 7 21 22 23) = W7 (n11 k G) 4 5 6 7 21 22 23 σ h := by kernel_rfl
noncomputable def c12 := cL c10
noncomputable def c13 := cL c12
@[simp] def n13 {R : Type} (k : Nat) (G : KT7 R) (v4 v5 v6 v7 v21 v22 v23 : GV) (h : Heap) := (kia 1 v21 v23).bind fun v25 => (kload1 h v25).bind fun v26 => (HH fn.impl_Parser_step [v6, v26] h).bind fun r => kr r fun v29 h => (kapp [(.int .i64 0), (.int .i64 0), .nils, (.int .i64 0), .nils] 5 72 v7 v29 h).bind fun r => kr r fun v30 h => G .nrm v4 v5 v6 v30 v21 v22 v23 h
theorem n13_eq (G : KT7 R) : KC k 35 c13 σ h (Q7 G 4 5 6 7 21 22 23) = W7 (n13 k G) 4 5 6 7 21 22 23 σ h := by kernel_rfl
@[simp] def n12 (G : KT7 R) (v4 v5 v6 v7 v21 v22 v23 : GV) (h : Heap) := n13 k (fun x v4 v5 v6 v7 v21 v22 v23 h => kb 1 x fun x => G x v4 v5 v6 v7 v21 v22 v23 h) v4 v5 v6 v7 v21 v22 v23 h
theorem n12_eq (G : KT7 R) : KC k 35 c12 σ h (Q7 G 4 5 6 7 21 22 23) = W7 (n12 k G) 4 5 6 7 21 22 23 σ h := (kblock_eq (a := c13) rfl).trans (n13_eq k σ h (fun x v4 v5 v6 v7 v21 v22 v23 h => kb 1 x fun x => G x v4 v5 v6 v7 v21 v22 v23 h))
@[simp] def n10 (G : KT7 R) (v4 v5 v6 v7 v21 v22 v23 : GV) (h : Heap) := n12 k (fun x v4 v5 v6 v7 v21 v22 v23 h => kx x (n11 k G v4 v5 v6 v7 v21 v22 v23 h) (G x v4 v5 v6 v7 v21 v22 v23 h)) v4 v5 v6 v7 v21 v22 v23 h
theorem n10_eq (G : KT7 R) : KC k 35 c10 σ h (Q7 G 4 5 6 7 21 22 23) = W7 (n10 k G) 4 5 6 7 21 22 23 σ h := (kseq (b := c11) rfl (fun σ h => n11_eq k σ h G)).trans (n12_eq k σ h (fun x v4 v5 v6 v7 v21 v22 v23 h => kx x (n11 k G v4 v5 v6 v7 v21 v22 v23 h) (G x v4 v5 v6 v7 v21 v22 v23 h)))
noncomputable def c14 := cL c9
@[simp] def n9 (G : KT7 R) (v4 v5 v6 v7 v21 v22 v23 v24 : GV) (h : Heap) := kcond v24 (n10 k G v4 v5 v6 v7 v21 v22 v23 h) (G (.ext 0) v4 v5 v6 v7 v21 v22 v23 h)
theorem n9_eq (G : KT7 R) : KC k 35 c9 σ h (Q7 G 4 5 6 7 21 22 23) = W8 (n9 k G) 4 5 6 7 21 22 23 24 σ h := (kseq (a := c14) (b := c10) rfl (fun σ h => n10_eq k σ h G)).trans (by kernel_rfl)
noncomputable def c15 := cL c8
@[simp] def n8 (G : KT7 R) (v4 v5 v6 v7 v21 v22 v23 : GV) (h : Heap) := (kbin .lss v23 v22).bind fun v24 => n9 k G v4 v5 v6 v7 v21 v22 v23 v24 h
theorem n8_eq (G : KT7 R) : KC k 35 c8 σ h (Q7 G 4 5 6 7 21 22 23) = W7 (n8 k G) 4 5 6 7 21 22 23 σ h := (kseq (a := c15) (b := c9) rfl (fun σ h => n9_eq k σ h G)).trans (by kernel_rfl)
def l7 {R : Type} (k : Nat) (G : KT4 R) : Nat → GV → GV → GV → GV → GV → GV → GV → Heap → Option R
  | 0, _, _, _, _, _, _, _, _ => none
  | r + 1, v4, v5, v6, v7, v21, v22, v23, h => n8 k (fun x v4 v5 v6 v7 v21 v22 v23 h => kx x (l7 k G r v4 v5 v6 v7 v21 v22 v23 h) (G x v4 v5 v6 v7 h)) v4 v5 v6 v7 v21 v22 v23 h
theorem l7_eq {R : Type} (k : Nat) (G : KT4 R) : ∀ (r : Nat) (σ : GS) (h : Heap), kloop (fun σ h K => KC k 35 c8 σ h K) r σ h (Q4 G 4 5 6 7) = l7 k G r (σ 4) (σ 5) (σ 6) (σ 7) (σ 21) (σ 22) (σ 23) h
  | 0, _, _ => rfl
  | r + 1, σ, h => (kloop_eq (fun σ h => l7_eq k G r σ h)).trans (n8_eq k σ h (fun x v4 v5 v6 v7 v21 v22 v23 h => kx x (l7 k G r v4 v5 v6 v7 v21 v22 v23 h) (G x v4 v5 v6 v7 h)))
@[simp] def n7 (G : KT4 R) (v4 v5 v6 v7 v21 v22 v23 : GV) (h : Heap) := l7 k G k v4 v5 v6 v7 v21 v22 v23 h
theorem n7_eq (G : KT4 R) : KC k 35 c7 σ h (Q4 G 4 5 6 7) = W7 (n7 k G) 4 5 6 7 21 22 23 σ h := (kloopc_eq (a := c8) rfl).trans (l7_eq k G k σ h)
@[simp] def n6 (G : KT4 R) (v4 v5 v6 v7 v21 v22 v23 : GV) (h : Heap) := n7 k (fun x v4 v5 v6 v7 h => kb 0 x fun x => G x v4 v5 v6 v7 h) v4 v5 v6 v7 v21 v22 v23 h
theorem n6_eq (G : KT4 R) : KC k 35 c6 σ h (Q4 G 4 5 6 7) = W7 (n6 k G) 4 5 6 7 21 22 23 σ h := (kblock_eq (a := c7) rfl).trans (n7_eq k σ h (fun x v4 v5 v6 v7 h => kb 0 x fun x => G x v4 v5 v6 v7 h))
noncomputable def c16 := cL c5
@[simp] def n5 (G : KT4 R) (v1 v4 v5 v6 v7 : GV) (h : Heap) := (klen v1).bind fun v22 => n6 k G v4 v5 v6 v7 v1 v22 (.int .i64 0) h
theorem n5_eq (G : KT4 R) : KC k 35 c5 σ h (Q4 G 4 5 6 7) = W5 (n5 k G) 1 4 5 6 7 σ h := (kseq (a := c16) (b := c6) rfl (fun σ h => n6_eq k σ h G)).trans (by kernel_rfl)
@[simp] def n3 (G : KT2 R) (v1 v4 v5 v6 v7 : GV) (h : Heap) := n5 k (fun x v4 v5 v6 v7 h => kx x (n4 k G v4 v6 v7 h) (G x v4 v5 h)) v1 v4 v5 v6 v7 h
theorem n3_eq (G : KT2 R) : KC k 35 c3 σ h (Q2 G 4 5) = W5 (n3 k G) 1 4 5 6 7 σ h := (kseq (b := c4) rfl (fun σ h => n4_eq k σ h G)).trans (n5_eq k σ h (fun x v4 v5 v6 v7 h => kx x (n4 k G v4 v6 v7 h) (G x v4 v5 h)))
noncomputable def c17 := cL c2
@[simp] def n2 (G : KT2 R) (v1 v2 v4 v5 : GV) (h : Heap) := (kloadA 4 h v2).bind fun v18 => (kF false HH fn.impl_Parser_copied [v18] h).bind fun r => kr r fun v19 h => kalloc [(.int .i64 0), .nils, (.int .i64 0), .nils] h fun v6 h => (kstore 4 h v6 v19).bind fun h => n3 k G v1 v4 v5 v6 .emp h
theorem n2_eq (G : KT2 R) : KC k 35 c2 σ h (Q2 G 4 5) = W4 (n2 k G) 1 2 4 5 σ h := (kseq (a := c17) (b := c3) rfl (fun σ h => n3_eq k σ h G)).trans (by kernel_rfl)
noncomputable def c18 := cL c1
noncomputable def c19 := cR c18
@[simp] def n19 {R : Type} (k : Nat) (G : KT4 R) (v1 v2 v4 v5 v16 : GV) (h : Heap) := kcond v16 ((gfill (fun i => [(0, 1), (1, 1), (2, 1), (3, 1)][i]?) [(.int .i64 0), .nils, (.int .i64 0), .nils] []).bind fun c => kagg c h fun v17 h => (kstore 4 h v4 v17).bind fun h => G .ret v1 v2 v4 .nils h) (G .nrm v1 v2 v4 v5 h)
theorem n19_eq (G : KT4 R) : KC k 35 c19 σ h (Q4 G 1 2 4 5) = W5 (n19 k G) 1 2 4 5 16 σ h := by kernel_rfl
noncomputable def c20 := cL c18
noncomputable def o20 : Array Oper := cO c20
@[simp] def g20_2 {R : Type} (k : Nat) (G : KT5 R) (v1 v2 v4 v5 v13 v15 : GV) (h : Heap) := (kpick v13 (.bool true) v15).bind fun v16 => G .nrm v1 v2 v4 v5 v16 h
theorem g20_2_eq (G : KT5 R) : kgroups PP cfg NN HH 35 o20 [(none, [6])] σ h (fun σ h => G .nrm (σ 1) (σ 2) (σ 4) (σ 5) (σ 16) h) = W6 (g20_2 k G) 1 2 4 5 13 15 σ h := by kernel_rfl
@[simp] def g20_1 (G : KT5 R) (v1 v2 v4 v5 v13 : GV) (h : Heap) := bif tr false v13 then (kN NN fn.slices_ContainsFunc_int64 [v1, (.fn fn.impl_parsed_1 [])] h).bind fun v15 => g20_2 k G v1 v2 v4 v5 v13 v15 h else g20_2 k G v1 v2 v4 v5 v13 .un h
theorem g20_1_eq (G : KT5 R) : kgroups PP cfg NN HH 35 o20 [(some (3, false), [4, 5]), (none, [6])] σ h (fun σ h => G .nrm (σ 1) (σ 2) (σ 4) (σ 5) (σ 16) h) = W5 (g20_1 k G) 1 2 4 5 13 σ h := (kgroups_cons (fun σ h => g20_2_eq k σ h G)).trans (by kernel_rfl)
@[simp] def g20_0 (G : KT5 R) (v1 v2 v4 v5 : GV) (h : Heap) := (kloadA 4 h v2).bind fun v10 => (kN NN fn.impl_ParserOk [v10] h).bind fun v11 => (kun .not v11).bind fun v12 => g20_1 k G v1 v2 v4 v5 v12 h
theorem g20_0_eq (G : KT5 R) : kgroups PP cfg NN HH 35 o20 [(none, [0, 1, 2, 3]), (some (3, false), [4, 5]), (none, [6])] σ h (fun σ h => G .nrm (σ 1) (σ 2) (σ 4) (σ 5) (σ 16) h) = W4 (g20_0 k G) 1 2 4 5 σ h := (kgroups_cons (fun σ h => g20_1_eq k σ h G)).trans (by kernel_rfl)
@[simp] def n20 (G : KT5 R) (v1 v2 v4 v5 : GV) (h : Heap) := g20_0 k G v1 v2 v4 v5 h
theorem n20_eq (G : KT5 R) : KC k 35 c20 σ h (Q5 G 1 2 4 5 16) = W4 (n20 k G) 1 2 4 5 σ h := (kregion_eq (id := 1) (draw := false) (ops := o20) (gs := [(none, [0, 1, 2, 3]), (some (3, false), [4, 5]), (none, [6])]) (by kernel_rfl) (by kernel_rfl) (by kernel_rfl)).trans (g20_0_eq k σ h G)
@[simp] def n18 (G : KT4 R) (v1 v2 v4 v5 : GV) (h : Heap) := n20 k (fun x v1 v2 v4 v5 v16 h => kx x (n19 k G v1 v2 v4 v5 v16 h) (G x v1 v2 v4 v5 h)) v1 v2 v4 v5 h
theorem n18_eq (G : KT4 R) : KC k 35 c18 σ h (Q4 G 1 2 4 5) = W4 (n18 k G) 1 2 4 5 σ h := (kseq (b := c19) rfl (fun σ h => n19_eq k σ h G)).trans (n20_eq k σ h (fun x v1 v2 v4 v5 v16 h => kx x (n19 k G v1 v2 v4 v5 v16 h) (G x v1 v2 v4 v5 h)))
@[simp] def n1 (G : KT2 R) (v1 v2 v4 v5 : GV) (h : Heap) := n18 k (fun x v1 v2 v4 v5 h => kx x (n2 k G v1 v2 v4 v5 h) (G x v4 v5 h)) v1 v2 v4 v5 h
theorem n1_eq (G : KT2 R) : KC k 35 c1 σ h (Q2 G 4 5) = W4 (n1 k G) 1 2 4 5 σ h := (kseq (b := c2) rfl (fun σ h => n2_eq k σ h G)).trans (n18_eq k σ h (fun x v1 v2 v4 v5 h => kx x (n2 k G v1 v2 v4 v5 h) (G x v4 v5 h)))
noncomputable def c21 := cL c0
@[simp] def n0 (G : KT2 R) (v0 v1 : GV) (h : Heap) := kbox v0 h fun v2 h => kalloc [(.int .i64 0), .nils, (.int .i64 0), .nils] h fun v4 h => n1 k G v1 v2 v4 .nils h
theorem n0_eq (G : KT2 R) : KC k 35 c0 σ h (Q2 G 4 5) = W2 (n0 k G) 0 1 σ h := (kseq (a := c21) (b := c1) rfl (fun σ h => n1_eq k σ h G)).trans (by kernel_rfl)
def run {R : Type} (k : Nat) (a0 a1 : GV) (h : Heap) (fin : GV → Heap → Option R) : Option R := n0 k (fun x v4 v5 h => kend x ((kloadA 4 h v4).bind fun w4 => fin (.tup [w4, v5]) h)) a0 a1 h
theorem gives {k : Nat} {a0 a1 : GV} {b : Nat} {q : GV × List (List GV)} (e : run k a0 a1 [] (finO b) = some q) : OO fn.impl_parsed [a0, a1] b = some q := oω_of (((kfun_eq (nt := 35) (c := c0) (show PP.funcs[fn.impl_parsed]? = some Try.f167 by kernel_rfl) (by kernel_rfl) (by kernel_rfl) (fun x σ h => by cases x <;> kernel_rfl)).trans (n0_eq k _ [] _)).trans e)
end S.impl_parsed
namespace S.spec_l6Runes
noncomputable def c0 := bodyOf Try.f169
noncomputable def c1 := cR c0
noncomputable def c2 := cR c1
noncomputable def c3 := cR c2
@[simp] def n3 {R : Type} (k : Nat) (G : KT1 R) (h : Heap) := G .ret (.bool true) h
theorem n3_eq (G : KT1 R) : KC k 22 c3 σ h (Q1 G 4) = n3 k G h := by kernel_rfl
noncomputable def c4 := cL c2
noncomputable def c5 := cR c4
noncomputable def c6 := cL c5
noncomputable def c7 := cL c6
noncomputable def c8 := cR c7
noncomputable def c9 := cR c8
@[simp] def n9 {R : Type} (k : Nat) (G : KT3 R) (v0 v4 v5 : GV) (h : Heap) := (kbin .add v5 (.int .i64 1)).bind fun v15 => G .nrm v0 v4 v15 h
theorem n9_eq (G : KT3 R) : KC k 22 c9 σ h (Q3 G 0 4 5) = W3 (n9 k G) 0 4 5 σ h := by kernel_rfl
noncomputable def c10 := cL c8
noncomputable def c11 := cL c10
@[simp] def n11 {R : Type} (k : Nat) (G : KT3 R) (v0 v4 v5 : GV) (h : Heap) := (kia 1 v0 v5).bind fun v18 => (kload1 h v18).bind fun v19 => (kN NN fn.spec_RuneOk [v19] h).bind fun v20 => (kun .not v20).bind fun v21 => kcond v21 (G .ret v0 (.bool false) v5 h) (G .nrm v0 v4 v5 h)
theorem n11_eq (G : KT3 R) : KC k 22 c11 σ h (Q3 G 0 4 5) = W3 (n11 k G) 0 4 5 σ h := by kernel_rfl
@[simp] def n10 (G : KT3 R) (v0 v4 v5 : GV) (h : Heap) := n11 k (fun x v0 v4 v5 h => kb 1 x fun x => G x v0 v4 v5 h) v0 v4 v5 h
theorem n10_eq (G : KT3 R) : KC k 22 c10 σ h (Q3 G 0 4 5) = W3 (n10 k G) 0 4 5 σ h := (kblock_eq (a := c11) rfl).trans (n11_eq k σ h (fun x v0 v4 v5 h => kb 1 x fun x => G x v0 v4 v5 h))
@[simp] def n8 (G : KT3 R) (v0 v4 v5 : GV) (h : Heap) := n10 k (fun x v0 v4 v5 h => kx x (n9 k G v0 v4 v5 h) (G x v0 v4 v5 h)) v0 v4 v5 h
theorem n8_eq (G : KT3 R) : KC k 22 c8 σ h (Q3 G 0 4 5) = W3 (n8 k G) 0 4 5 σ h := (kseq (b := c9) rfl (fun σ h => n9_eq k σ h G)).trans (n10_eq k σ h (fun x v0 v4 v5 h => kx x (n9 k G v0 v4 v5 h) (G x v0 v4 v5 h)))
noncomputable def c12 := cL c7
@[simp] def n7 (G : KT3 R) (v0 v4 v5 : GV) (h : Heap) := (klen v0).bind fun v12 => (kbin .lss v5 v12).bind fun v13 => kcond v13 (n8 k G v0 v4 v5 h) (G (.ext 0) v0 v4 v5 h)
theorem n7_eq (G : KT3 R) : KC k 22 c7 σ h (Q3 G 0 4 5) = W3 (n7 k G) 0 4 5 σ h := (kseq (a := c12) (b := c8) rfl (fun σ h => n8_eq k σ h G)).trans (by kernel_rfl)
def l6 {R : Type} (k : Nat) (G : KT1 R) : Nat → GV → GV → GV → Heap → Option R
  | 0, _, _, _, _ => none
  | r + 1, v0, v4, v5, h => n7 k (fun x v0 v4 v5 h => kx x (l6 k G r v0 v4 v5 h) (G x v4 h)) v0 v4 v5 h
theorem l6_eq {R : Type} (k : Nat) (G : KT1 R) : ∀ (r : Nat) (σ : GS) (h : Heap), kloop (fun σ h K => KC k 22 c7 σ h K) r σ h (Q1 G 4) = l6 k G r (σ 0) (σ 4) (σ 5) h
  | 0, _, _ => rfl
  | r + 1, σ, h => (kloop_eq (fun σ h => l6_eq k G r σ h)).trans (n7_eq k σ h (fun x v0 v4 v5 h => kx x (l6 k G r v0 v4 v5 h) (G x v4 h)))
@[simp] def n6 (G : KT1 R) (v0 v4 v5 : GV) (h : Heap) := l6 k G k v0 v4 v5 h
theorem n6_eq (G : KT1 R) : KC k 22 c6 σ h (Q1 G 4) = W3 (n6 k G) 0 4 5 σ h := (kloopc_eq (a := c7) rfl).trans (l6_eq k G k σ h)
@[simp] def n5 (G : KT1 R) (v0 v4 v5 : GV) (h : Heap) := n6 k (fun x v4 h => kb 0 x fun x => G x v4 h) v0 v4 v5 h
theorem n5_eq (G : KT1 R) : KC k 22 c5 σ h (Q1 G 4) = W3 (n5 k G) 0 4 5 σ h := (kblock_eq (a := c6) rfl).trans (n6_eq k σ h (fun x v4 h => kb 0 x fun x => G x v4 h))
noncomputable def c13 := cL c4
@[simp] def n4 (G : KT1 R) (v0 v4 : GV) (h : Heap) := n5 k G v0 v4 (.int .i64 0) h
theorem n4_eq (G : KT1 R) : KC k 22 c4 σ h (Q1 G 4) = W2 (n4 k G) 0 4 σ h := (kseq (a := c13) (b := c5) rfl (fun σ h => n5_eq k σ h G)).trans (by kernel_rfl)
@[simp] def n2 (G : KT1 R) (v0 v4 : GV) (h : Heap) := n4 k (fun x v4 h => kx x (n3 k G h) (G x v4 h)) v0 v4 h
theorem n2_eq (G : KT1 R) : KC k 22 c2 σ h (Q1 G 4) = W2 (n2 k G) 0 4 σ h := (kseq (b := c3) rfl (fun σ h => n3_eq k σ h G)).trans (n4_eq k σ h (fun x v4 h => kx x (n3 k G h) (G x v4 h)))
noncomputable def c14 := cL c1
@[simp] def n1 (G : KT1 R) (v0 v1 v4 : GV) (h : Heap) := (klen v0).bind fun v7 => (kbin .gtr v7 v1).bind fun v9 => kcond v9 (G .ret (.bool false) h) (n2 k G v0 v4 h)
theorem n1_eq (G : KT1 R) : KC k 22 c1 σ h (Q1 G 4) = W3 (n1 k G) 0 1 4 σ h := (kseq (a := c14) (b := c2) rfl (fun σ h => n2_eq k σ h G)).trans (by kernel_rfl)
noncomputable def c15 := cL c0
@[simp] def n0 (G : KT1 R) (v0 v1 : GV) (h : Heap) := n1 k G v0 v1 (.bool false) h
theorem n0_eq (G : KT1 R) : KC k 22 c0 σ h (Q1 G 4) = W2 (n0 k G) 0 1 σ h := (kseq (a := c15) (b := c1) rfl (fun σ h => n1_eq k σ h G)).trans (by kernel_rfl)
def run {R : Type} (k : Nat) (a0 a1 : GV) (h : Heap) (fin : GV → Heap → Option R) : Option R := n0 k (fun x v4 h => kend x (fin v4 h)) a0 a1 h
theorem gives {k : Nat} {a0 a1 : GV} {v : GV} (e : run k a0 a1 [] finN = some v) : NN fn.spec_l6Runes [a0, a1] = some v := nω_of (by kernel_rfl) (((kfun_eq (nt := 22) (c := c0) (show PP.funcs[fn.spec_l6Runes]? = some Try.f169 by kernel_rfl) (by kernel_rfl) (by kernel_rfl) (fun x σ h => by cases x <;> kernel_rfl)).trans (n0_eq k _ [] _)).trans e)
end S.spec_l6Runes
namespace S.impl_areParams
noncomputable def c0 := bodyOf Try.f186
noncomputable def c1 := cR c0
noncomputable def c2 := cR c1
@[simp] def n2 {R : Type} (k : Nat) (G : KT1 R) (v2 : GV) (h : Heap) := G .ret v2 h
theorem n2_eq (G : KT1 R) : KC k 11 c2 σ h (Q1 G 2) = n2 k G (σ 2) h := by kernel_rfl
noncomputable def c3 := cL c1
noncomputable def o3 : Array Oper := cO c3
@[simp] def g3_2 {R : Type} (k : Nat) (G : KT1 R) (v6 v9 : GV) (h : Heap) := (kpick v6 v9 (.bool false)).bind fun v10 => G .nrm v10 h
theorem g3_2_eq (G : KT1 R) : kgroups PP cfg NN HH 11 o3 [(none, [7, 8])] σ h (fun σ h => G .nrm (σ 2) h) = W2 (g3_2 k G) 6 9 σ h := by kernel_rfl
@[simp] def g3_1 (G : KT1 R) (v0 v6 : GV) (h : Heap) := bif tr true v6 then (kN NN fn.slices_ContainsFunc_int64 [v0, (.fn fn.impl_areParams_1 [])] h).bind fun v8 => (kun .not v8).bind fun v9 => g3_2 k G v6 v9 h else g3_2 k G v6 .un h
theorem g3_1_eq (G : KT1 R) : kgroups PP cfg NN HH 11 o3 [(some (3, true), [4, 5, 6]), (none, [7, 8])] σ h (fun σ h => G .nrm (σ 2) h) = W2 (g3_1 k G) 0 6 σ h := (kgroups_cons (fun σ h => g3_2_eq k σ h G)).trans (by kernel_rfl)
@[simp] def g3_0 (G : KT1 R) (v0 : GV) (h : Heap) := (klen v0).bind fun v4 => (kbin .leq v4 (.int .i64 16)).bind fun v5 => g3_1 k G v0 v5 h
theorem g3_0_eq (G : KT1 R) : kgroups PP cfg NN HH 11 o3 [(none, [0, 1, 2, 3]), (some (3, true), [4, 5, 6]), (none, [7, 8])] σ h (fun σ h => G .nrm (σ 2) h) = g3_0 k G (σ 0) h := (kgroups_cons (fun σ h => g3_1_eq k σ h G)).trans (by kernel_rfl)
@[simp] def n3 (G : KT1 R) (v0 : GV) (h : Heap) := g3_0 k G v0 h
theorem n3_eq (G : KT1 R) : KC k 11 c3 σ h (Q1 G 2) = n3 k G (σ 0) h := (kregion_eq (id := 1) (draw := false) (ops := o3) (gs := [(none, [0, 1, 2, 3]), (some (3, true), [4, 5, 6]), (none, [7, 8])]) (by kernel_rfl) (by kernel_rfl) (by kernel_rfl)).trans (g3_0_eq k σ h G)
@[simp] def n1 (G : KT1 R) (v0 : GV) (h : Heap) := n3 k (fun x v2 h => kx x (n2 k G v2 h) (G x v2 h)) v0 h
theorem n1_eq (G : KT1 R) : KC k 11 c1 σ h (Q1 G 2) = n1 k G (σ 0) h := (kseq (b := c2) rfl (fun σ h => n2_eq k σ h G)).trans (n3_eq k σ h (fun x v2 h => kx x (n2 k G v2 h) (G x v2 h)))
noncomputable def c4 := cL c0
@[simp] def n0 (G : KT1 R) (v0 : GV) (h : Heap) := n1 k G v0 h
theorem n0_eq (G : KT1 R) : KC k 11 c0 σ h (Q1 G 2) = n0 k G (σ 0) h := (kseq (a := c4) (b := c1) rfl (fun σ h => n1_eq k σ h G)).trans (by kernel_rfl)
def run {R : Type} (k : Nat) (a0 : GV) (h : Heap) (fin : GV → Heap → Option R) : Option R := n0 k (fun x v2 h => kend x (fin v2 h)) a0 h
theorem gives {k : Nat} {a0 : GV} {v : GV} (e : run k a0 [] finN = some v) : NN fn.impl_areParams [a0] = some v := nω_of (by kernel_rfl) (((kfun_eq (nt := 11) (c := c0) (show PP.funcs[fn.impl_areParams]? = some Try.f186 by kernel_rfl) (by kernel_rfl) (by kernel_rfl) (fun x σ h => by cases x <;> kernel_rfl)).trans (n0_eq k _ [] _)).trans e)
end S.impl_areParams
namespace S.impl_isMark
noncomputable def c0 := bodyOf Try.f187
noncomputable def c1 := cR c0
noncomputable def c2 := cR c1
@[simp] def n2 {R : Type} (k : Nat) (G : KT1 R) (v2 : GV) (h : Heap) := G .ret v2 h
theorem n2_eq (G : KT1 R) : KC k 9 c2 σ h (Q1 G 2) = n2 k G (σ 2) h := by kernel_rfl
noncomputable def c3 := cL c1
noncomputable def o3 : Array Oper := cO c3
@[simp] def g3_2 {R : Type} (k : Nat) (G : KT1 R) (v5 v7 : GV) (h : Heap) := (kpick v5 (.bool true) v7).bind fun v8 => G .nrm v8 h
theorem g3_2_eq (G : KT1 R) : kgroups PP cfg NN HH 9 o3 [(none, [5, 6])] σ h (fun σ h => G .nrm (σ 2) h) = W2 (g3_2 k G) 5 7 σ h := by kernel_rfl
@[simp] def g3_1 (G : KT1 R) (v0 v5 : GV) (h : Heap) := bif tr false v5 then (kbin .eql v0 (.int .i64 63)).bind fun v7 => g3_2 k G v5 v7 h else g3_2 k G v5 .un h
theorem g3_1_eq (G : KT1 R) : kgroups PP cfg NN HH 9 o3 [(some (2, false), [3, 4]), (none, [5, 6])] σ h (fun σ h => G .nrm (σ 2) h) = W2 (g3_1 k G) 0 5 σ h := (kgroups_cons (fun σ h => g3_2_eq k σ h G)).trans (by kernel_rfl)
@[simp] def g3_0 (G : KT1 R) (v0 : GV) (h : Heap) := (kbin .eql v0 (.int .i64 0)).bind fun v4 => g3_1 k G v0 v4 h
theorem g3_0_eq (G : KT1 R) : kgroups PP cfg NN HH 9 o3 [(none, [0, 1, 2]), (some (2, false), [3, 4]), (none, [5, 6])] σ h (fun σ h => G .nrm (σ 2) h) = g3_0 k G (σ 0) h := (kgroups_cons (fun σ h => g3_1_eq k σ h G)).trans (by kernel_rfl)
@[simp] def n3 (G : KT1 R) (v0 : GV) (h : Heap) := g3_0 k G v0 h
theorem n3_eq (G : KT1 R) : KC k 9 c3 σ h (Q1 G 2) = n3 k G (σ 0) h := (kregion_eq (id := 1) (draw := false) (ops := o3) (gs := [(none, [0, 1, 2]), (some (2, false), [3, 4]), (none, [5, 6])]) (by kernel_rfl) (by kernel_rfl) (by kernel_rfl)).trans (g3_0_eq k σ h G)
@[simp] def n1 (G : KT1 R) (v0 : GV) (h : Heap) := n3 k (fun x v2 h => kx x (n2 k G v2 h) (G x v2 h)) v0 h
theorem n1_eq (G : KT1 R) : KC k 9 c1 σ h (Q1 G 2) = n1 k G (σ 0) h := (kseq (b := c2) rfl (fun σ h => n2_eq k σ h G)).trans (n3_eq k σ h (fun x v2 h => kx x (n2 k G v2 h) (G x v2 h)))
noncomputable def c4 := cL c0
@[simp] def n0 (G : KT1 R) (v0 : GV) (h : Heap) := n1 k G v0 h
theorem n0_eq (G : KT1 R) : KC k 9 c0 σ h (Q1 G 2) = n0 k G (σ 0) h := (kseq (a := c4) (b := c1) rfl (fun σ h => n1_eq k σ h G)).trans (by kernel_rfl)
def run {R : Type} (k : Nat) (a0 : GV) (h : Heap) (fin : GV → Heap → Option R) : Option R := n0 k (fun x v2 h => kend x (fin v2 h)) a0 h
theorem gives {k : Nat} {a0 : GV} {v : GV} (e : run k a0 [] finN = some v) : NN fn.impl_isMark [a0] = some v := nω_of (by kernel_rfl) (((kfun_eq (nt := 9) (c := c0) (show PP.funcs[fn.impl_isMark]? = some Try.f187 by kernel_rfl) (by kernel_rfl) (by kernel_rfl) (fun x σ h => by cases x <;> kernel_rfl)).trans (n0_eq k _ [] _)).trans e)
end S.impl_isMark
namespace S.impl_areTitle
noncomputable def c0 := bodyOf Try.f188
noncomputable def c1 := cR c0
noncomputable def c2 := cR c1
@[simp] def n2 {R : Type} (k : Nat) (G : KT1 R) (v2 : GV) (h : Heap) := G .ret v2 h
theorem n2_eq (G : KT1 R) : KC k 11 c2 σ h (Q1 G 2) = n2 k G (σ 2) h := by kernel_rfl
noncomputable def c3 := cL c1
noncomputable def o3 : Array Oper := cO c3
@[simp] def g3_2 {R : Type} (k : Nat) (G : KT1 R) (v6 v9 : GV) (h : Heap) := (kpick v6 v9 (.bool false)).bind fun v10 => G .nrm v10 h
theorem g3_2_eq (G : KT1 R) : kgroups PP cfg NN HH 11 o3 [(none, [7, 8])] σ h (fun σ h => G .nrm (σ 2) h) = W2 (g3_2 k G) 6 9 σ h := by kernel_rfl
@[simp] def g3_1 (G : KT1 R) (v0 v6 : GV) (h : Heap) := bif tr true v6 then (kN NN fn.slices_ContainsFunc_int64 [v0, (.fn fn.impl_areTitle_1 [])] h).bind fun v8 => (kun .not v8).bind fun v9 => g3_2 k G v6 v9 h else g3_2 k G v6 .un h
theorem g3_1_eq (G : KT1 R) : kgroups PP cfg NN HH 11 o3 [(some (3, true), [4, 5, 6]), (none, [7, 8])] σ h (fun σ h => G .nrm (σ 2) h) = W2 (g3_1 k G) 0 6 σ h := (kgroups_cons (fun σ h => g3_2_eq k σ h G)).trans (by kernel_rfl)
@[simp] def g3_0 (G : KT1 R) (v0 : GV) (h : Heap) := (klen v0).bind fun v4 => (kbin .leq v4 (.int .i64 40)).bind fun v5 => g3_1 k G v0 v5 h
theorem g3_0_eq (G : KT1 R) : kgroups PP cfg NN HH 11 o3 [(none, [0, 1, 2, 3]), (some (3, true), [4, 5, 6]), (none, [7, 8])] σ h (fun σ h => G .nrm (σ 2) h) = g3_0 k G (σ 0) h := (kgroups_cons (fun σ h => g3_1_eq k σ h G)).trans (by kernel_rfl)
@[simp] def n3 (G : KT1 R) (v0 : GV) (h : Heap) := g3_0 k G v0 h
theorem n3_eq (G : KT1 R) : KC k 11 c3 σ h (Q1 G 2) = n3 k G (σ 0) h := (kregion_eq (id := 1) (draw := false) (ops := o3) (gs := [(none, [0, 1, 2, 3]), (some (3, true), [4, 5, 6]), (none, [7, 8])]) (by kernel_rfl) (by kernel_rfl) (by kernel_rfl)).trans (g3_0_eq k σ h G)
@[simp] def n1 (G : KT1 R) (v0 : GV) (h : Heap) := n3 k (fun x v2 h => kx x (n2 k G v2 h) (G x v2 h)) v0 h
theorem n1_eq (G : KT1 R) : KC k 11 c1 σ h (Q1 G 2) = n1 k G (σ 0) h := (kseq (b := c2) rfl (fun σ h => n2_eq k σ h G)).trans (n3_eq k σ h (fun x v2 h => kx x (n2 k G v2 h) (G x v2 h)))
noncomputable def c4 := cL c0
@[simp] def n0 (G : KT1 R) (v0 : GV) (h : Heap) := n1 k G v0 h
theorem n0_eq (G : KT1 R) : KC k 11 c0 σ h (Q1 G 2) = n0 k G (σ 0) h := (kseq (a := c4) (b := c1) rfl (fun σ h => n1_eq k σ h G)).trans (by kernel_rfl)
def run {R : Type} (k : Nat) (a0 : GV) (h : Heap) (fin : GV → Heap → Option R) : Option R := n0 k (fun x v2 h => kend x (fin v2 h)) a0 h
theorem gives {k : Nat} {a0 : GV} {v : GV} (e : run k a0 [] finN = some v) : NN fn.impl_areTitle [a0] = some v := nω_of (by kernel_rfl) (((kfun_eq (nt := 11) (c := c0) (show PP.funcs[fn.impl_areTitle]? = some Try.f188 by kernel_rfl) (by kernel_rfl) (by kernel_rfl) (fun x σ h => by cases x <;> kernel_rfl)).trans (n0_eq k _ [] _)).trans e)
end S.impl_areTitle
namespace S.slices_ContainsFunc_int64
noncomputable def c0 := bodyOf Try.f205
@[simp] def n0 {R : Type} (k : Nat) (G : KT1 R) (v0 v1 : GV) (h : Heap) := (kN NN fn.slices_IndexFunc_int64 [v0, v1] h).bind fun v7 => (kbin .geq v7 (.int .i64 0)).bind fun v8 => G .ret v8 h
theorem n0_eq (G : KT1 R) : KC k 9 c0 σ h (Q1 G 4) = W2 (n0 k G) 0 1 σ h := by kernel_rfl
def run {R : Type} (k : Nat) (a0 a1 : GV) (h : Heap) (fin : GV → Heap → Option R) : Option R := n0 k (fun x v4 h => kend x (fin v4 h)) a0 a1 h
theorem gives {k : Nat} {a0 a1 : GV} {v : GV} (e : run k a0 a1 [] finN = some v) : NN fn.slices_ContainsFunc_int64 [a0, a1] = some v := nω_of (by kernel_rfl) (((kfun_eq (nt := 9) (c := c0) (show PP.funcs[fn.slices_ContainsFunc_int64]? = some Try.f205 by kernel_rfl) (by kernel_rfl) (by kernel_rfl) (fun x σ h => by cases x <;> kernel_rfl)).trans (n0_eq k _ [] _)).trans e)
end S.slices_ContainsFunc_int64
namespace S.slices_IndexFunc_int64
noncomputable def c0 := bodyOf Try.f212
noncomputable def c1 := cR c0
noncomputable def c2 := cR c1
@[simp] def n2 {R : Type} (k : Nat) (G : KT1 R) (h : Heap) := G .ret (.int .i64 (-1)) h
theorem n2_eq (G : KT1 R) : KC k 19 c2 σ h (Q1 G 4) = n2 k G h := by kernel_rfl
noncomputable def c3 := cL c1
noncomputable def c4 := cR c3
noncomputable def c5 := cL c4
noncomputable def c6 := cL c5
noncomputable def c7 := cR c6
noncomputable def c8 := cR c7
noncomputable def c9 := cR c8
@[simp] def n9 {R : Type} (k : Nat) (G : KT5 R) (v0 v1 v4 v7 v8 : GV) (h : Heap) := (kbin .add v8 (.int .i64 1)).bind fun v18 => G .nrm v0 v1 v4 v7 v18 h
theorem n9_eq (G : KT5 R) : KC k 19 c9 σ h (Q5 G 0 1 4 7 8) = W5 (n9 k G) 0 1 4 7 8 σ h := by kernel_rfl
noncomputable def c10 := cL c8
noncomputable def c11 := cL c10
@[simp] def n11 {R : Type} (k : Nat) (G : KT5 R) (v0 v1 v4 v7 v8 : GV) (h : Heap) := (kia 1 v0 v8).bind fun v14 => (kload1 h v14).bind fun v15 => kval v1 [v15] h fun v16 h => kcond v16 (G .ret v0 v1 v8 v7 v8 h) (G .nrm v0 v1 v4 v7 v8 h)
theorem n11_eq (G : KT5 R) : KC k 19 c11 σ h (Q5 G 0 1 4 7 8) = W5 (n11 k G) 0 1 4 7 8 σ h := by kernel_rfl
@[simp] def n10 (G : KT5 R) (v0 v1 v4 v7 v8 : GV) (h : Heap) := n11 k (fun x v0 v1 v4 v7 v8 h => kb 1 x fun x => G x v0 v1 v4 v7 v8 h) v0 v1 v4 v7 v8 h
theorem n10_eq (G : KT5 R) : KC k 19 c10 σ h (Q5 G 0 1 4 7 8) = W5 (n10 k G) 0 1 4 7 8 σ h := (kblock_eq (a := c11) rfl).trans (n11_eq k σ h (fun x v0 v1 v4 v7 v8 h => kb 1 x fun x => G x v0 v1 v4 v7 v8 h))
@[simp] def n8 (G : KT5 R) (v0 v1 v4 v7 v8 : GV) (h : Heap) := n10 k (fun x v0 v1 v4 v7 v8 h => kx x (n9 k G v0 v1 v4 v7 v8 h) (G x v0 v1 v4 v7 v8 h)) v0 v1 v4 v7 v8 h
theorem n8_eq (G : KT5 R) : KC k 19 c8 σ h (Q5 G 0 1 4 7 8) = W5 (n8 k G) 0 1 4 7 8 σ h := (kseq (b := c9) rfl (fun σ h => n9_eq k σ h G)).trans (n10_eq k σ h (fun x v0 v1 v4 v7 v8 h => kx x (n9 k G v0 v1 v4 v7 v8 h) (G x v0 v1 v4 v7 v8 h)))
noncomputable def c12 := cL c7
@[simp] def n7 (G : KT5 R) (v0 v1 v4 v7 v8 v9 : GV) (h : Heap) := kcond v9 (n8 k G v0 v1 v4 v7 v8 h) (G (.ext 0) v0 v1 v4 v7 v8 h)
theorem n7_eq (G : KT5 R) : KC k 19 c7 σ h (Q5 G 0 1 4 7 8) = W6 (n7 k G) 0 1 4 7 8 9 σ h := (kseq (a := c12) (b := c8) rfl (fun σ h => n8_eq k σ h G)).trans (by kernel_rfl)
noncomputable def c13 := cL c6
@[simp] def n6 (G : KT5 R) (v0 v1 v4 v7 v8 : GV) (h : Heap) := (kbin .lss v8 v7).bind fun v9 => n7 k G v0 v1 v4 v7 v8 v9 h
theorem n6_eq (G : KT5 R) : KC k 19 c6 σ h (Q5 G 0 1 4 7 8) = W5 (n6 k G) 0 1 4 7 8 σ h := (kseq (a := c13) (b := c7) rfl (fun σ h => n7_eq k σ h G)).trans (by kernel_rfl)
def l5 {R : Type} (k : Nat) (G : KT1 R) : Nat → GV → GV → GV → GV → GV → Heap → Option R
  | 0, _, _, _, _, _, _ => none
  | r + 1, v0, v1, v4, v7, v8, h => n6 k (fun x v0 v1 v4 v7 v8 h => kx x (l5 k G r v0 v1 v4 v7 v8 h) (G x v4 h)) v0 v1 v4 v7 v8 h
theorem l5_eq {R : Type} (k : Nat) (G : KT1 R) : ∀ (r : Nat) (σ : GS) (h : Heap), kloop (fun σ h K => KC k 19 c6 σ h K) r σ h (Q1 G 4) = l5 k G r (σ 0) (σ 1) (σ 4) (σ 7) (σ 8) h
  | 0, _, _ => rfl
  | r + 1, σ, h => (kloop_eq (fun σ h => l5_eq k G r σ h)).trans (n6_eq k σ h (fun x v0 v1 v4 v7 v8 h => kx x (l5 k G r v0 v1 v4 v7 v8 h) (G x v4 h)))
@[simp] def n5 (G : KT1 R) (v0 v1 v4 v7 v8 : GV) (h : Heap) := l5 k G k v0 v1 v4 v7 v8 h
theorem n5_eq (G : KT1 R) : KC k 19 c5 σ h (Q1 G 4) = W5 (n5 k G) 0 1 4 7 8 σ h := (kloopc_eq (a := c6) rfl).trans (l5_eq k G k σ h)
@[simp] def n4 (G : KT1 R) (v0 v1 v4 v7 v8 : GV) (h : Heap) := n5 k (fun x v4 h => kb 0 x fun x => G x v4 h) v0 v1 v4 v7 v8 h
theorem n4_eq (G : KT1 R) : KC k 19 c4 σ h (Q1 G 4) = W5 (n4 k G) 0 1 4 7 8 σ h := (kblock_eq (a := c5) rfl).trans (n5_eq k σ h (fun x v4 h => kb 0 x fun x => G x v4 h))
noncomputable def c14 := cL c3
@[simp] def n3 (G : KT1 R) (v0 v1 v4 : GV) (h : Heap) := (klen v0).bind fun v7 => n4 k G v0 v1 v4 v7 (.int .i64 0) h
theorem n3_eq (G : KT1 R) : KC k 19 c3 σ h (Q1 G 4) = W3 (n3 k G) 0 1 4 σ h := (kseq (a := c14) (b := c4) rfl (fun σ h => n4_eq k σ h G)).trans (by kernel_rfl)
@[simp] def n1 (G : KT1 R) (v0 v1 v4 : GV) (h : Heap) := n3 k (fun x v4 h => kx x (n2 k G h) (G x v4 h)) v0 v1 v4 h
theorem n1_eq (G : KT1 R) : KC k 19 c1 σ h (Q1 G 4) = W3 (n1 k G) 0 1 4 σ h := (kseq (b := c2) rfl (fun σ h => n2_eq k σ h G)).trans (n3_eq k σ h (fun x v4 h => kx x (n2 k G h) (G x v4 h)))
noncomputable def c15 := cL c0
@[simp] def n0 (G : KT1 R) (v0 v1 : GV) (h : Heap) := n1 k G v0 v1 (.int .i64 0) h
theorem n0_eq (G : KT1 R) : KC k 19 c0 σ h (Q1 G 4) = W2 (n0 k G) 0 1 σ h := (kseq (a := c15) (b := c1) rfl (fun σ h => n1_eq k σ h G)).trans (by kernel_rfl)
def run {R : Type} (k : Nat) (a0 a1 : GV) (h : Heap) (fin : GV → Heap → Option R) : Option R := n0 k (fun x v4 h => kend x (fin v4 h)) a0 a1 h
theorem gives {k : Nat} {a0 a1 : GV} {v : GV} (e : run k a0 a1 [] finN = some v) : NN fn.slices_IndexFunc_int64 [a0, a1] = some v := nω_of (by kernel_rfl) (((kfun_eq (nt := 19) (c := c0) (show PP.funcs[fn.slices_IndexFunc_int64]? = some Try.f212 by kernel_rfl) (by kernel_rfl) (by kernel_rfl) (fun x σ h => by cases x <;> kernel_rfl)).trans (n0_eq k _ [] _)).trans e)
end S.slices_IndexFunc_int64
namespace S.spec_l6State
noncomputable def c0 := bodyOf Try.f219
@[simp] def n0 {R : Type} (k : Nat) (G : KT1 R) (v0 : GV) (h : Heap) := kalloc [(.int .i64 0), .nils, (.int .i64 0), .nils] h fun v2 h => (gfill (fun i => [(0, 1), (1, 1), (2, 1), (3, 1)][i]?) [(.int .i64 0), .nils, (.int .i64 0), .nils] [(0, v0)]).bind fun c => kagg c h fun v4 h => (kstore 4 h v2 v4).bind fun h => G .ret v2 h
theorem n0_eq (G : KT1 R) : KC k 5 c0 σ h (Q1 G 2) = n0 k G (σ 0) h := by kernel_rfl
def run {R : Type} (k : Nat) (a0 : GV) (h : Heap) (fin : GV → Heap → Option R) : Option R := n0 k (fun x v2 h => kend x ((kloadA 4 h v2).bind fun w2 => fin w2 h)) a0 h
theorem gives {k : Nat} {a0 : GV} {b : Nat} {q : GV × List (List GV)} (e : run k a0 [] (finO b) = some q) : OO fn.spec_l6State [a0] b = some q := oω_of (((kfun_eq (nt := 5) (c := c0) (show PP.funcs[fn.spec_l6State]? = some Try.f219 by kernel_rfl) (by kernel_rfl) (by kernel_rfl) (fun x σ h => by cases x <;> kernel_rfl)).trans (n0_eq k _ [] _)).trans e)
end S.spec_l6State
namespace S.spec_l6Escape
noncomputable def c0 := bodyOf Try.f220
noncomputable def c1 := cR c0
noncomputable def c2 := cR c1
noncomputable def c3 := cR c2
@[simp] def n3 {R : Type} (k : Nat) (G : KT2 R) (v2 v4 : GV) (h : Heap) := (kF false HH fn.spec_l6State [(.int .i64 1)] h).bind fun r => kr r fun v23 h => (kstore 4 h v2 v23).bind fun h => G .ret v2 v4 h
theorem n3_eq (G : KT2 R) : KC k 25 c3 σ h (Q2 G 2 3) = W2 (n3 k G) 2 4 σ h := by kernel_rfl
noncomputable def c4 := cL c2
noncomputable def c5 := cL c4
@[simp] def n5 {R : Type} (k : Nat) (G : KT3 R) (v0 v2 v3 v4 : GV) (h : Heap) := (kbin .eql v0 (.int .i64 91)).bind fun v8 => kcond v8 ((kF false HH fn.spec_l6State [(.int .i64 3)] h).bind fun r => kr r fun v9 h => (kstore 4 h v2 v9).bind fun h => G .ret v2 v4 v4 h) ((kbin .eql v0 (.int .i64 93)).bind fun v13 => kcond v13 ((kF false HH fn.spec_l6State [(.int .i64 4)] h).bind fun r => kr r fun v14 h => (kstore 4 h v2 v14).bind fun h => G .ret v2 v4 v4 h) ((kN NN fn.spec_l1In [v0, (.int .i64 48), (.int .i64 126)] h).bind fun v18 => kcond v18 ((kF false HH fn.spec_l6State [(.int .i64 1)] h).bind fun r => kr r fun v19 h => (gfill (fun i => [(0, 1), (1, 1), (2, 1), (3, 1), (4, 1)][i]?) [(.int .i64 0), (.int .i64 0), .nils, (.int .i64 0), .nils] [(0, (.int .i64 3)), (1, v0)]).bind fun c => kagg c h fun v21 h => (gfill (fun i => some (i * 5, 5)) (zeros [(.int .i64 0), (.int .i64 0), .nils, (.int .i64 0), .nils] 1) [(0, v21)]).bind fun c => kbs 1 5 c h fun v22 h => (kstore 4 h v2 v19).bind fun h => G .ret v2 v22 v4 h) (G .nrm v2 v3 v4 h)))
theorem n5_eq (G : KT3 R) : KC k 25 c5 σ h (Q3 G 2 3 4) = W4 (n5 k G) 0 2 3 4 σ h := by kernel_rfl
@[simp] def n4 (G : KT3 R) (v0 v2 v3 v4 : GV) (h : Heap) := n5 k (fun x v2 v3 v4 h => kb 0 x fun x => G x v2 v3 v4 h) v0 v2 v3 v4 h
theorem n4_eq (G : KT3 R) : KC k 25 c4 σ h (Q3 G 2 3 4) = W4 (n4 k G) 0 2 3 4 σ h := (kblock_eq (a := c5) rfl).trans (n5_eq k σ h (fun x v2 v3 v4 h => kb 0 x fun x => G x v2 v3 v4 h))
@[simp] def n2 (G : KT2 R) (v0 v2 v3 v4 : GV) (h : Heap) := n4 k (fun x v2 v3 v4 h => kx x (n3 k G v2 v4 h) (G x v2 v3 h)) v0 v2 v3 v4 h
theorem n2_eq (G : KT2 R) : KC k 25 c2 σ h (Q2 G 2 3) = W4 (n2 k G) 0 2 3 4 σ h := (kseq (b := c3) rfl (fun σ h => n3_eq k σ h G)).trans (n4_eq k σ h (fun x v2 v3 v4 h => kx x (n3 k G v2 v4 h) (G x v2 v3 h)))
noncomputable def c6 := cL c1
@[simp] def n1 (G : KT2 R) (v0 v2 v3 : GV) (h : Heap) := n2 k G v0 v2 v3 .emp h
theorem n1_eq (G : KT2 R) : KC k 25 c1 σ h (Q2 G 2 3) = W3 (n1 k G) 0 2 3 σ h := (kseq (a := c6) (b := c2) rfl (fun σ h => n2_eq k σ h G)).trans (by kernel_rfl)
noncomputable def c7 := cL c0
@[simp] def n0 (G : KT2 R) (v0 : GV) (h : Heap) := kalloc [(.int .i64 0), .nils, (.int .i64 0), .nils] h fun v2 h => n1 k G v0 v2 .nils h
theorem n0_eq (G : KT2 R) : KC k 25 c0 σ h (Q2 G 2 3) = n0 k G (σ 0) h := (kseq (a := c7) (b := c1) rfl (fun σ h => n1_eq k σ h G)).trans (by kernel_rfl)
def run {R : Type} (k : Nat) (a0 : GV) (h : Heap) (fin : GV → Heap → Option R) : Option R := n0 k (fun x v2 v3 h => kend x ((kloadA 4 h v2).bind fun w2 => fin (.tup [w2, v3]) h)) a0 h
theorem gives {k : Nat} {a0 : GV} {h : Heap} {r : GV × Heap} (e : run k a0 h finH = some r) : HH fn.spec_l6Escape [a0] h = some r := kω_of (((kfun_eq (nt := 25) (c := c0) (show PP.funcs[fn.spec_l6Escape]? = some Try.f220 by kernel_rfl) (by kernel_rfl) (by kernel_rfl) (fun x σ h => by cases x <;> kernel_rfl)).trans (n0_eq k _ h _)).trans e)
end S.spec_l6Escape
namespace S.spec_l6List
noncomputable def c0 := bodyOf Try.f221
noncomputable def c1 := cR c0
noncomputable def c2 := cR c1
noncomputable def c3 := cR c2
noncomputable def c4 := cR c3
@[simp] def n4 {R : Type} (k : Nat) (G : KT2 R) (v4 v6 : GV) (h : Heap) := (kF false HH fn.spec_l6State [(.int .i64 1)] h).bind fun r => kr r fun v87 h => (kstore 4 h v4 v87).bind fun h => G .ret v4 v6 h
theorem n4_eq (G : KT2 R) : KC k 89 c4 σ h (Q2 G 4 5) = W2 (n4 k G) 4 6 σ h := by kernel_rfl
noncomputable def c5 := cL c3
noncomputable def c6 := cL c5
noncomputable def c7 := cR c6
noncomputable def c8 := cL c7
@[simp] def n8 {R : Type} (k : Nat) (G : KT3 R) (v2 v4 v5 v6 : GV) (h : Heap) := (kfa 2 v2).bind fun v24 => (kstore 1 h v24 (.int .i64 63)).bind fun h => (kloadA 4 h v2).bind fun v25 => (kstore 4 h v4 v25).bind fun h => G .ret v4 v6 v6 h
theorem n8_eq (G : KT3 R) : KC k 89 c8 σ h (Q3 G 4 5 6) = W4 (n8 k G) 2 4 5 6 σ h := by kernel_rfl
noncomputable def c9 := cR c7
noncomputable def c10 := cR c9
noncomputable def c11 := cL c10
noncomputable def c12 := cR c11
@[simp] def n12 {R : Type} (k : Nat) (G : KT3 R) (v1 v2 v4 v5 v6 v7 : GV) (h : Heap) := (kfa 1 v2).bind fun v37 => (kload1 h v37).bind fun v38 => (kbin .sub v7 (.int .i64 1)).bind fun v40 => (kfa 1 v2).bind fun v41 => (kload1 h v41).bind fun v42 => (kbin .sub v7 (.int .i64 1)).bind fun v44 => (kia 1 v42 v44).bind fun v45 => (kload1 h v45).bind fun v46 => (kbin .mul (.int .i64 10) v46).bind fun v47 => (kbin .add v47 v1).bind fun v49 => (kbin .sub v49 (.int .i64 48)).bind fun v50 => (kN NN fn.spec_l1Min [(.int .i64 9999), v50] h).bind fun v51 => (kia 1 v38 v40).bind fun v52 => (kstore 1 h v52 v51).bind fun h => (kloadA 4 h v2).bind fun v53 => (kstore 4 h v4 v53).bind fun h => G .ret v4 v6 v6 h
theorem n12_eq (G : KT3 R) : KC k 89 c12 σ h (Q3 G 4 5 6) = W6 (n12 k G) 1 2 4 5 6 7 σ h := by kernel_rfl
noncomputable def c13 := cL c11
@[simp] def n11 (G : KT3 R) (v1 v2 v4 v5 v6 v7 : GV) (h : Heap) := (kbin .eql v7 (.int .i64 0)).bind fun v31 => kcond v31 ((kfa 1 v2).bind fun v32 => (kload1 h v32).bind fun v33 => (gfill (fun i => some (i * 1, 1)) (zeros [(.int .i64 0)] 1) [(0, (.int .i64 0))]).bind fun c => kbs 1 1 c h fun v34 h => (kapp [(.int .i64 0)] 1 8 v33 v34 h).bind fun r => kr r fun v35 h => (kfa 1 v2).bind fun v36 => (kstore 1 h v36 v35).bind fun h => n12 k G v1 v2 v4 v5 v6 (.int .i64 1) h) (n12 k G v1 v2 v4 v5 v6 v7 h)
theorem n11_eq (G : KT3 R) : KC k 89 c11 σ h (Q3 G 4 5 6) = W6 (n11 k G) 1 2 4 5 6 7 σ h := (kseq (a := c13) (b := c12) rfl (fun σ h => n12_eq k σ h G)).trans (by kernel_rfl)
noncomputable def c14 := cR c10
noncomputable def c15 := cR c14
noncomputable def c16 := cL c15
noncomputable def c17 := cR c16
noncomputable def c18 := cR c17
@[simp] def n18 {R : Type} (k : Nat) (G : KT3 R) (v2 v4 v6 : GV) (h : Heap) := (kloadA 4 h v2).bind fun v74 => (kstore 4 h v4 v74).bind fun h => G .ret v4 v6 v6 h
theorem n18_eq (G : KT3 R) : KC k 89 c18 σ h (Q3 G 4 5 6) = W3 (n18 k G) 2 4 6 σ h := by kernel_rfl
noncomputable def c19 := cL c17
@[simp] def n17 (G : KT3 R) (v2 v4 v5 v6 : GV) (h : Heap) := (kfa 1 v2).bind fun v65 => (kload1 h v65).bind fun v66 => (klen v66).bind fun v67 => (kbin .lss v67 (.int .i64 16)).bind fun v68 => kcond v68 ((kfa 1 v2).bind fun v69 => (kload1 h v69).bind fun v70 => (gfill (fun i => some (i * 1, 1)) (zeros [(.int .i64 0)] 1) [(0, (.int .i64 0))]).bind fun c => kbs 1 1 c h fun v71 h => (kapp [(.int .i64 0)] 1 8 v70 v71 h).bind fun r => kr r fun v72 h => (kfa 1 v2).bind fun v73 => (kstore 1 h v73 v72).bind fun h => n18 k G v2 v4 v6 h) (n18 k G v2 v4 v6 h)
theorem n17_eq (G : KT3 R) : KC k 89 c17 σ h (Q3 G 4 5 6) = W4 (n17 k G) 2 4 5 6 σ h := (kseq (a := c19) (b := c18) rfl (fun σ h => n18_eq k σ h G)).trans (by kernel_rfl)
noncomputable def c20 := cL c16
@[simp] def n16 (G : KT3 R) (v2 v4 v5 v6 v7 : GV) (h : Heap) := (kbin .eql v7 (.int .i64 0)).bind fun v59 => kcond v59 ((kfa 1 v2).bind fun v60 => (kload1 h v60).bind fun v61 => (gfill (fun i => some (i * 1, 1)) (zeros [(.int .i64 0)] 1) [(0, (.int .i64 0))]).bind fun c => kbs 1 1 c h fun v62 h => (kapp [(.int .i64 0)] 1 8 v61 v62 h).bind fun r => kr r fun v63 h => (kfa 1 v2).bind fun v64 => (kstore 1 h v64 v63).bind fun h => n17 k G v2 v4 v5 v6 h) (n17 k G v2 v4 v5 v6 h)
theorem n16_eq (G : KT3 R) : KC k 89 c16 σ h (Q3 G 4 5 6) = W5 (n16 k G) 2 4 5 6 7 σ h := (kseq (a := c20) (b := c17) rfl (fun σ h => n17_eq k σ h G)).trans (by kernel_rfl)
noncomputable def c21 := cR c15
noncomputable def c22 := cR c21
noncomputable def c23 := cL c22
noncomputable def c24 := cR c23
@[simp] def n24 {R : Type} (k : Nat) (G : KT3 R) (v4 v5 v6 : GV) (h : Heap) := G .ret v4 v5 v6 h
theorem n24_eq (G : KT3 R) : KC k 89 c24 σ h (Q3 G 4 5 6) = W3 (n24 k G) 4 5 6 σ h := by kernel_rfl
noncomputable def c25 := cL c23
noncomputable def o25 : Array Oper := cO c25
@[simp] def g25_0 {R : Type} (k : Nat) (G : KT3 R) (v1 v2 v4 v6 : GV) (rs : List Rec) (h : Heap) := kold h fun h0 => (kF false HH fn.spec_l6State [(.int .i64 1)] h).bind fun r => kr r fun v79 h => krs (rs ++ [⟨0, h0.length, h.length, ⟨[(.int .i64 1)].flatMap (kborr h0), []⟩⟩]) fun rs => (kfa 1 v2).bind fun v81 => kold h fun h0 => (kload1 h v81).bind fun v82 => krs (rs ++ [⟨3, h0.length, h.length, ⟨kblk v81, []⟩⟩]) fun rs => (kfa 2 v2).bind fun v83 => kold h fun h0 => (kload1 h v83).bind fun v84 => krs (rs ++ [⟨5, h0.length, h.length, ⟨kblk v83, []⟩⟩]) fun rs => (gfill (fun i => [(0, 1), (1, 1), (2, 1), (3, 1), (4, 1)][i]?) [(.int .i64 0), (.int .i64 0), .nils, (.int .i64 0), .nils] [(0, (.int .i64 4)), (1, v1), (2, v82), (3, v84)]).bind fun c => kagg c h fun v85 h => kold h fun h0 => (gfill (fun i => some (i * 5, 5)) (zeros [(.int .i64 0), (.int .i64 0), .nils, (.int .i64 0), .nils] 1) [(0, v85)]).bind fun c => kbs 1 5 c h fun v86 h => krs (rs ++ [⟨7, h0.length, h.length, ⟨[], []⟩⟩]) fun rs => kold h fun h0 => (kstore 4 h v4 v79).bind fun h => krs (rs ++ [⟨8, h0.length, h.length, ⟨[], kblk v4⟩⟩]) fun rs => bif chk [(0, 3), (0, 5), (3, 8), (5, 8), (7, 8)] rs then G .nrm v4 v86 v6 h else none
theorem g25_0_eq (G : KT3 R) (rs : List Rec) (σ : GS) (h : Heap) : kgroupsD PP cfg NN HH 89 o25 [(0, 3), (0, 5), (3, 8), (5, 8), (7, 8)] [(none, [0, 1, 2, 3, 4, 5, 6, 7, 8, 9])] rs σ h (fun rs σ h => bif chk [(0, 3), (0, 5), (3, 8), (5, 8), (7, 8)] rs then G .nrm (σ 4) (σ 5) (σ 6) h else none) = g25_0 k G (σ 1) (σ 2) (σ 4) (σ 6) rs h := by kernel_rfl
@[simp] def n25 (G : KT3 R) (v1 v2 v4 v6 : GV) (h : Heap) := g25_0 k G v1 v2 v4 v6 [] h
theorem n25_eq (G : KT3 R) : KC k 89 c25 σ h (Q3 G 4 5 6) = W4 (n25 k G) 1 2 4 6 σ h := (kregionD_eq (id := 19) (draw := true) (ops := o25) (gs := [(none, [0, 1, 2, 3, 4, 5, 6, 7, 8, 9])]) (bad := [(0, 3), (0, 5), (3, 8), (5, 8), (7, 8)]) (by kernel_rfl) (by kernel_rfl) (by kernel_rfl) (by kernel_rfl) (by kernel_rfl)).trans (g25_0_eq k G [] σ h)
@[simp] def n23 (G : KT3 R) (v1 v2 v4 v6 : GV) (h : Heap) := n25 k (fun x v4 v5 v6 h => kx x (n24 k G v4 v5 v6 h) (G x v4 v5 v6 h)) v1 v2 v4 v6 h
theorem n23_eq (G : KT3 R) : KC k 89 c23 σ h (Q3 G 4 5 6) = W4 (n23 k G) 1 2 4 6 σ h := (kseq (b := c24) rfl (fun σ h => n24_eq k σ h G)).trans (n25_eq k σ h (fun x v4 v5 v6 h => kx x (n24 k G v4 v5 v6 h) (G x v4 v5 v6 h)))
noncomputable def c26 := cR c22
@[simp] def n26 {R : Type} (k : Nat) (G : KT3 R) (v4 v5 v6 : GV) (h : Heap) := G .nrm v4 v5 v6 h
theorem n26_eq (G : KT3 R) : KC k 89 c26 σ h (Q3 G 4 5 6) = W3 (n26 k G) 4 5 6 σ h := by kernel_rfl
@[simp] def n22 (G : KT3 R) (v1 v2 v4 v5 v6 v76 : GV) (h : Heap) := kcond v76 (n23 k G v1 v2 v4 v6 h) (n26 k G v4 v5 v6 h)
theorem n22_eq (G : KT3 R) : KC k 89 c22 σ h (Q3 G 4 5 6) = W6 (n22 k G) 1 2 4 5 6 76 σ h := (kcond_eq (a := c23) (b := c26) rfl (by rfl)).trans (congr (congrArg (kcond (σ 76)) (n23_eq k σ h G)) (n26_eq k σ h G))
noncomputable def c27 := cL c21
@[simp] def n21 (G : KT3 R) (v1 v2 v4 v5 v6 : GV) (h : Heap) := (kN NN fn.spec_l1In [v1, (.int .i64 64), (.int .i64 126)] h).bind fun v78 => n22 k G v1 v2 v4 v5 v6 v78 h
theorem n21_eq (G : KT3 R) : KC k 89 c21 σ h (Q3 G 4 5 6) = W5 (n21 k G) 1 2 4 5 6 σ h := (kseq (a := c27) (b := c22) rfl (fun σ h => n22_eq k σ h G)).trans (by kernel_rfl)
@[simp] def n15 (G : KT3 R) (v1 v2 v4 v5 v6 v7 v55 : GV) (h : Heap) := kcond v55 (n16 k G v2 v4 v5 v6 v7 h) (n21 k G v1 v2 v4 v5 v6 h)
theorem n15_eq (G : KT3 R) : KC k 89 c15 σ h (Q3 G 4 5 6) = W7 (n15 k G) 1 2 4 5 6 7 55 σ h := (kcond_eq (a := c16) (b := c21) rfl (by rfl)).trans (congr (congrArg (kcond (σ 55)) (n16_eq k σ h G)) (n21_eq k σ h G))
noncomputable def c28 := cL c14
@[simp] def n14 (G : KT3 R) (v1 v2 v4 v5 v6 v7 : GV) (h : Heap) := (kbin .eql v1 (.int .i64 59)).bind fun v57 => n15 k G v1 v2 v4 v5 v6 v7 v57 h
theorem n14_eq (G : KT3 R) : KC k 89 c14 σ h (Q3 G 4 5 6) = W6 (n14 k G) 1 2 4 5 6 7 σ h := (kseq (a := c28) (b := c15) rfl (fun σ h => n15_eq k σ h G)).trans (by kernel_rfl)
@[simp] def n10 (G : KT3 R) (v1 v2 v4 v5 v6 v7 v27 : GV) (h : Heap) := kcond v27 (n11 k G v1 v2 v4 v5 v6 v7 h) (n14 k G v1 v2 v4 v5 v6 v7 h)
theorem n10_eq (G : KT3 R) : KC k 89 c10 σ h (Q3 G 4 5 6) = W7 (n10 k G) 1 2 4 5 6 7 27 σ h := (kcond_eq (a := c11) (b := c14) rfl (by rfl)).trans (congr (congrArg (kcond (σ 27)) (n11_eq k σ h G)) (n14_eq k σ h G))
noncomputable def c29 := cL c9
@[simp] def n9 (G : KT3 R) (v1 v2 v4 v5 v6 v7 : GV) (h : Heap) := (kN NN fn.spec_l1In [v1, (.int .i64 48), (.int .i64 57)] h).bind fun v29 => n10 k G v1 v2 v4 v5 v6 v7 v29 h
theorem n9_eq (G : KT3 R) : KC k 89 c9 σ h (Q3 G 4 5 6) = W6 (n9 k G) 1 2 4 5 6 7 σ h := (kseq (a := c29) (b := c10) rfl (fun σ h => n10_eq k σ h G)).trans (by kernel_rfl)
@[simp] def n7 (G : KT3 R) (v1 v2 v4 v5 v6 v7 v12 : GV) (h : Heap) := kcond v12 (n8 k G v2 v4 v5 v6 h) (n9 k G v1 v2 v4 v5 v6 v7 h)
theorem n7_eq (G : KT3 R) : KC k 89 c7 σ h (Q3 G 4 5 6) = W7 (n7 k G) 1 2 4 5 6 7 12 σ h := (kcond_eq (a := c8) (b := c9) rfl (by rfl)).trans (congr (congrArg (kcond (σ 12)) (n8_eq k σ h G)) (n9_eq k σ h G))
noncomputable def c30 := cL c6
noncomputable def o30 : Array Oper := cO c30
@[simp] def g30_4 {R : Type} (k : Nat) (G : KT7 R) (v1 v2 v4 v5 v6 v7 v19 v22 : GV) (h : Heap) := (kpick v19 v22 (.bool false)).bind fun v23 => G .nrm v1 v2 v4 v5 v6 v7 v23 h
theorem g30_4_eq (G : KT7 R) : kgroups PP cfg NN HH 89 o30 [(none, [10, 11])] σ h (fun σ h => G .nrm (σ 1) (σ 2) (σ 4) (σ 5) (σ 6) (σ 7) (σ 12) h) = W8 (g30_4 k G) 1 2 4 5 6 7 19 22 σ h := by kernel_rfl
@[simp] def g30_3 (G : KT7 R) (v1 v2 v4 v5 v6 v7 v19 : GV) (h : Heap) := bif tr true v19 then (kfa 2 v2).bind fun v20 => (kload1 h v20).bind fun v21 => (kbin .eql v21 (.int .i64 0)).bind fun v22 => g30_4 k G v1 v2 v4 v5 v6 v7 v19 v22 h else g30_4 k G v1 v2 v4 v5 v6 v7 v19 .un h
theorem g30_3_eq (G : KT7 R) : kgroups PP cfg NN HH 89 o30 [(some (6, true), [7, 8, 9]), (none, [10, 11])] σ h (fun σ h => G .nrm (σ 1) (σ 2) (σ 4) (σ 5) (σ 6) (σ 7) (σ 12) h) = W7 (g30_3 k G) 1 2 4 5 6 7 19 σ h := (kgroups_cons (fun σ h => g30_4_eq k σ h G)).trans (by kernel_rfl)
@[simp] def g30_2 (G : KT7 R) (v1 v2 v4 v5 v6 v7 v15 v17 : GV) (h : Heap) := (kpick v15 v17 (.bool false)).bind fun v18 => g30_3 k G v1 v2 v4 v5 v6 v7 v18 h
theorem g30_2_eq (G : KT7 R) : kgroups PP cfg NN HH 89 o30 [(none, [5, 6]), (some (6, true), [7, 8, 9]), (none, [10, 11])] σ h (fun σ h => G .nrm (σ 1) (σ 2) (σ 4) (σ 5) (σ 6) (σ 7) (σ 12) h) = W8 (g30_2 k G) 1 2 4 5 6 7 15 17 σ h := (kgroups_cons (fun σ h => g30_3_eq k σ h G)).trans (by kernel_rfl)
@[simp] def g30_1 (G : KT7 R) (v1 v2 v4 v5 v6 v7 v15 : GV) (h : Heap) := bif tr true v15 then (kbin .eql v7 (.int .i64 0)).bind fun v17 => g30_2 k G v1 v2 v4 v5 v6 v7 v15 v17 h else g30_2 k G v1 v2 v4 v5 v6 v7 v15 .un h
theorem g30_1_eq (G : KT7 R) : kgroups PP cfg NN HH 89 o30 [(some (2, true), [3, 4]), (none, [5, 6]), (some (6, true), [7, 8, 9]), (none, [10, 11])] σ h (fun σ h => G .nrm (σ 1) (σ 2) (σ 4) (σ 5) (σ 6) (σ 7) (σ 12) h) = W7 (g30_1 k G) 1 2 4 5 6 7 15 σ h := (kgroups_cons (fun σ h => g30_2_eq k σ h G)).trans (by kernel_rfl)
@[simp] def g30_0 (G : KT7 R) (v1 v2 v4 v5 v6 v7 : GV) (h : Heap) := (kbin .eql v1 (.int .i64 63)).bind fun v14 => g30_1 k G v1 v2 v4 v5 v6 v7 v14 h
theorem g30_0_eq (G : KT7 R) : kgroups PP cfg NN HH 89 o30 [(none, [0, 1, 2]), (some (2, true), [3, 4]), (none, [5, 6]), (some (6, true), [7, 8, 9]), (none, [10, 11])] σ h (fun σ h => G .nrm (σ 1) (σ 2) (σ 4) (σ 5) (σ 6) (σ 7) (σ 12) h) = W6 (g30_0 k G) 1 2 4 5 6 7 σ h := (kgroups_cons (fun σ h => g30_1_eq k σ h G)).trans (by kernel_rfl)
@[simp] def n30 (G : KT7 R) (v1 v2 v4 v5 v6 v7 : GV) (h : Heap) := g30_0 k G v1 v2 v4 v5 v6 v7 h
theorem n30_eq (G : KT7 R) : KC k 89 c30 σ h (Q7 G 1 2 4 5 6 7 12) = W6 (n30 k G) 1 2 4 5 6 7 σ h := (kregion_eq (id := 3) (draw := false) (ops := o30) (gs := [(none, [0, 1, 2]), (some (2, true), [3, 4]), (none, [5, 6]), (some (6, true), [7, 8, 9]), (none, [10, 11])]) (by kernel_rfl) (by kernel_rfl) (by kernel_rfl)).trans (g30_0_eq k σ h G)
@[simp] def n6 (G : KT3 R) (v1 v2 v4 v5 v6 v7 : GV) (h : Heap) := n30 k (fun x v1 v2 v4 v5 v6 v7 v12 h => kx x (n7 k G v1 v2 v4 v5 v6 v7 v12 h) (G x v4 v5 v6 h)) v1 v2 v4 v5 v6 v7 h
theorem n6_eq (G : KT3 R) : KC k 89 c6 σ h (Q3 G 4 5 6) = W6 (n6 k G) 1 2 4 5 6 7 σ h := (kseq (b := c7) rfl (fun σ h => n7_eq k σ h G)).trans (n30_eq k σ h (fun x v1 v2 v4 v5 v6 v7 v12 h => kx x (n7 k G v1 v2 v4 v5 v6 v7 v12 h) (G x v4 v5 v6 h)))
@[simp] def n5 (G : KT3 R) (v1 v2 v4 v5 v6 v7 : GV) (h : Heap) := n6 k (fun x v4 v5 v6 h => kb 0 x fun x => G x v4 v5 v6 h) v1 v2 v4 v5 v6 v7 h
theorem n5_eq (G : KT3 R) : KC k 89 c5 σ h (Q3 G 4 5 6) = W6 (n5 k G) 1 2 4 5 6 7 σ h := (kblock_eq (a := c6) rfl).trans (n6_eq k σ h (fun x v4 v5 v6 h => kb 0 x fun x => G x v4 v5 v6 h))
@[simp] def n3 (G : KT2 R) (v1 v2 v4 v5 v6 v7 : GV) (h : Heap) := n5 k (fun x v4 v5 v6 h => kx x (n4 k G v4 v6 h) (G x v4 v5 h)) v1 v2 v4 v5 v6 v7 h
theorem n3_eq (G : KT2 R) : KC k 89 c3 σ h (Q2 G 4 5) = W6 (n3 k G) 1 2 4 5 6 7 σ h := (kseq (b := c4) rfl (fun σ h => n4_eq k σ h G)).trans (n5_eq k σ h (fun x v4 v5 v6 h => kx x (n4 k G v4 v6 h) (G x v4 v5 h)))
noncomputable def c31 := cL c2
@[simp] def n2 (G : KT2 R) (v1 v2 v4 v5 v6 : GV) (h : Heap) := (kfa 1 v2).bind fun v9 => (kload1 h v9).bind fun v10 => (klen v10).bind fun v11 => n3 k G v1 v2 v4 v5 v6 v11 h
theorem n2_eq (G : KT2 R) : KC k 89 c2 σ h (Q2 G 4 5) = W5 (n2 k G) 1 2 4 5 6 σ h := (kseq (a := c31) (b := c3) rfl (fun σ h => n3_eq k σ h G)).trans (by kernel_rfl)
noncomputable def c32 := cL c1
@[simp] def n1 (G : KT2 R) (v1 v2 v4 v5 : GV) (h : Heap) := n2 k G v1 v2 v4 v5 .emp h
theorem n1_eq (G : KT2 R) : KC k 89 c1 σ h (Q2 G 4 5) = W4 (n1 k G) 1 2 4 5 σ h := (kseq (a := c32) (b := c2) rfl (fun σ h => n2_eq k σ h G)).trans (by kernel_rfl)
noncomputable def c33 := cL c0
@[simp] def n0 (G : KT2 R) (v0 v1 : GV) (h : Heap) := kbox v0 h fun v2 h => kalloc [(.int .i64 0), .nils, (.int .i64 0), .nils] h fun v4 h => n1 k G v1 v2 v4 .nils h
theorem n0_eq (G : KT2 R) : KC k 89 c0 σ h (Q2 G 4 5) = W2 (n0 k G) 0 1 σ h := (kseq (a := c33) (b := c1) rfl (fun σ h => n1_eq k σ h G)).trans (by kernel_rfl)
def run {R : Type} (k : Nat) (a0 a1 : GV) (h : Heap) (fin : GV → Heap → Option R) : Option R := n0 k (fun x v4 v5 h => kend x ((kloadA 4 h v4).bind fun w4 => fin (.tup [w4, v5]) h)) a0 a1 h
theorem gives {k : Nat} {a0 a1 : GV} {h : Heap} {r : GV × Heap} (e : run k a0 a1 h finH = some r) : HH fn.spec_l6List [a0, a1] h = some r := kω_of (((kfun_eq (nt := 89) (c := c0) (show PP.funcs[fn.spec_l6List]? = some Try.f221 by kernel_rfl) (by kernel_rfl) (by kernel_rfl) (fun x σ h => by cases x <;> kernel_rfl)).trans (n0_eq k _ h _)).trans e)
end S.spec_l6List
namespace S.impl_parsed_1
noncomputable def c0 := bodyOf Try.f223
@[simp] def n0 {R : Type} (k : Nat) (G : KT1 R) (v0 : GV) (h : Heap) := (kN NN fn.impl_RuneOk [v0] h).bind fun v4 => (kun .not v4).bind fun v5 => G .ret v5 h
theorem n0_eq (G : KT1 R) : KC k 6 c0 σ h (Q1 G 2) = n0 k G (σ 0) h := by kernel_rfl
def run {R : Type} (k : Nat) (a0 : GV) (h : Heap) (fin : GV → Heap → Option R) : Option R := n0 k (fun x v2 h => kend x (fin v2 h)) a0 h
theorem gives {k : Nat} {a0 : GV} {v : GV} (e : run k a0 [] finN = some v) : NN fn.impl_parsed_1 [a0] = some v := nω_of (by kernel_rfl) (((kfun_eq (nt := 6) (c := c0) (show PP.funcs[fn.impl_parsed_1]? = some Try.f223 by kernel_rfl) (by kernel_rfl) (by kernel_rfl) (fun x σ h => by cases x <;> kernel_rfl)).trans (n0_eq k _ [] _)).trans e)
end S.impl_parsed_1
namespace S.impl_Parser_copied
noncomputable def c0 := bodyOf Try.f225
noncomputable def c1 := cR c0
noncomputable def c2 := cR c1
@[simp] def n2 {R : Type} (k : Nat) (G : KT1 R) (v1 v2 : GV) (h : Heap) := (kloadA 4 h v1).bind fun v11 => (kstore 4 h v2 v11).bind fun h => G .ret v2 h
theorem n2_eq (G : KT1 R) : KC k 12 c2 σ h (Q1 G 2) = W2 (n2 k G) 1 2 σ h := by kernel_rfl
noncomputable def c3 := cL c1
noncomputable def o3 : Array Oper := cO c3
@[simp] def g3_0 {R : Type} (k : Nat) (G : KT2 R) (v1 v2 : GV) (rs : List Rec) (h : Heap) := (kfa 1 v1).bind fun v3 => (kload1 h v3).bind fun v4 => kold h fun h0 => (kF true HH fn.slices_Clone_int64 [v4] h).bind fun r => kr r fun v5 h => krs (rs ++ [⟨2, h0.length, h.length, ⟨[v4].flatMap (kborr h0), []⟩⟩]) fun rs => (kfa 3 v1).bind fun v6 => kold h fun h0 => (kload1 h v6).bind fun v7 => krs (rs ++ [⟨4, h0.length, h.length, ⟨kblk v6, []⟩⟩]) fun rs => (kF true HH fn.slices_Clone_int64 [v7] h).bind fun r => kr r fun v8 h => (kfa 1 v1).bind fun v9 => (kstore 1 h v9 v5).bind fun h => (kfa 3 v1).bind fun v10 => (kstore 1 h v10 v8).bind fun h => bif chk [(2, 4)] rs then G .nrm v1 v2 h else none
theorem g3_0_eq (G : KT2 R) (rs : List Rec) (σ : GS) (h : Heap) : kgroupsD PP cfg NN HH 12 o3 [(2, 4)] [(none, [0, 1, 2, 3, 4, 5, 6, 7, 8, 9])] rs σ h (fun rs σ h => bif chk [(2, 4)] rs then G .nrm (σ 1) (σ 2) h else none) = g3_0 k G (σ 1) (σ 2) rs h := by kernel_rfl
@[simp] def n3 (G : KT2 R) (v1 v2 : GV) (h : Heap) := g3_0 k G v1 v2 [] h
theorem n3_eq (G : KT2 R) : KC k 12 c3 σ h (Q2 G 1 2) = W2 (n3 k G) 1 2 σ h := (kregionD_eq (id := 1) (draw := true) (ops := o3) (gs := [(none, [0, 1, 2, 3, 4, 5, 6, 7, 8, 9])]) (bad := [(2, 4)]) (by kernel_rfl) (by kernel_rfl) (by kernel_rfl) (by kernel_rfl) (by kernel_rfl)).trans (g3_0_eq k G [] σ h)
@[simp] def n1 (G : KT1 R) (v1 v2 : GV) (h : Heap) := n3 k (fun x v1 v2 h => kx x (n2 k G v1 v2 h) (G x v2 h)) v1 v2 h
theorem n1_eq (G : KT1 R) : KC k 12 c1 σ h (Q1 G 2) = W2 (n1 k G) 1 2 σ h := (kseq (b := c2) rfl (fun σ h => n2_eq k σ h G)).trans (n3_eq k σ h (fun x v1 v2 h => kx x (n2 k G v1 v2 h) (G x v2 h)))
noncomputable def c4 := cL c0
@[simp] def n0 (G : KT1 R) (v0 : GV) (h : Heap) := kbox v0 h fun v1 h => kalloc [(.int .i64 0), .nils, (.int .i64 0), .nils] h fun v2 h => n1 k G v1 v2 h
theorem n0_eq (G : KT1 R) : KC k 12 c0 σ h (Q1 G 2) = n0 k G (σ 0) h := (kseq (a := c4) (b := c1) rfl (fun σ h => n1_eq k σ h G)).trans (by kernel_rfl)
def run {R : Type} (k : Nat) (a0 : GV) (h : Heap) (fin : GV → Heap → Option R) : Option R := n0 k (fun x v2 h => kend x ((kloadA 4 h v2).bind fun w2 => fin w2 h)) a0 h
theorem gives {k : Nat} {a0 : GV} {b : Nat} {q : GV × List (List GV)} (e : run k a0 [] (finO b) = some q) : OO fn.impl_Parser_copied [a0] b = some q := oω_of (((kfun_eq (nt := 12) (c := c0) (show PP.funcs[fn.impl_Parser_copied]? = some Try.f225 by kernel_rfl) (by kernel_rfl) (by kernel_rfl) (fun x σ h => by cases x <;> kernel_rfl)).trans (n0_eq k _ [] _)).trans e)
end S.impl_Parser_copied
namespace S.impl_Parser_step
noncomputable def c0 := bodyOf Try.f226
noncomputable def c1 := cR c0
noncomputable def c2 := cR c1
@[simp] def n2 {R : Type} (k : Nat) (G : KT1 R) (h : Heap) := G .ret .nils h
theorem n2_eq (G : KT1 R) : KC k 68 c2 σ h (Q1 G 4) = n2 k G h := by kernel_rfl
noncomputable def c3 := cL c1
noncomputable def c4 := cL c3
noncomputable def c5 := cR c4
noncomputable def c6 := cL c5
@[simp] def n6 {R : Type} (k : Nat) (G : KT1 R) (v0 v1 : GV) (h : Heap) := (HH fn.impl_Parser_title [v0, v1] h).bind fun r => kr r fun v13 h => G .ret v13 h
theorem n6_eq (G : KT1 R) : KC k 68 c6 σ h (Q1 G 4) = W2 (n6 k G) 0 1 σ h := by kernel_rfl
noncomputable def c7 := cR c5
noncomputable def c8 := cR c7
noncomputable def c9 := cL c8
@[simp] def n9 {R : Type} (k : Nat) (G : KT1 R) (v0 v1 : GV) (h : Heap) := (HH fn.impl_Parser_ended [v0, v1] h).bind fun r => kr r fun v22 h => G .ret v22 h
theorem n9_eq (G : KT1 R) : KC k 68 c9 σ h (Q1 G 4) = W2 (n9 k G) 0 1 σ h := by kernel_rfl
noncomputable def c10 := cR c8
noncomputable def c11 := cR c10
noncomputable def c12 := cL c11
@[simp] def n12 {R : Type} (k : Nat) (G : KT1 R) (v0 v4 : GV) (h : Heap) := (HH fn.impl_Parser_become [v0, (.int .i64 2)] h).bind fun r => kr r fun v27 h => G .ret .nils h
theorem n12_eq (G : KT1 R) : KC k 68 c12 σ h (Q1 G 4) = W2 (n12 k G) 0 4 σ h := by kernel_rfl
noncomputable def c13 := cR c11
noncomputable def c14 := cR c13
@[simp] def n14 {R : Type} (k : Nat) (G : KT1 R) (v0 v1 v4 v28 : GV) (h : Heap) := kcond v28 ((HH fn.impl_Parser_become [v0, (.int .i64 1)] h).bind fun r => kr r fun v36 h => G .ret .nils h) ((kN NN fn.impl_isControl [v1] h).bind fun v39 => kcond v39 ((gfill (fun i => [(0, 1), (1, 1), (2, 1), (3, 1), (4, 1)][i]?) [(.int .i64 0), (.int .i64 0), .nils, (.int .i64 0), .nils] [(0, (.int .i64 2)), (1, v1)]).bind fun c => kagg c h fun v41 h => (gfill (fun i => some (i * 5, 5)) (zeros [(.int .i64 0), (.int .i64 0), .nils, (.int .i64 0), .nils] 1) [(0, v41)]).bind fun c => kbs 1 5 c h fun v42 h => G .ret v42 h) ((knil v0).bind fun v45 => (kfa 0 v45).bind fun v46 => (kload1 h v46).bind fun v47 => (kbin .eql v47 (.int .i64 2)).bind fun v48 => kcond v48 ((HH fn.impl_Parser_escaped [v0, v1] h).bind fun r => kr r fun v51 h => G .ret v51 h) ((knil v0).bind fun v54 => (kfa 0 v54).bind fun v55 => (kload1 h v55).bind fun v56 => (kbin .eql v56 (.int .i64 3)).bind fun v57 => kcond v57 ((HH fn.impl_Parser_more [v0, v1] h).bind fun r => kr r fun v60 h => G .ret v60 h) ((kN NN fn.impl_Width [v1] h).bind fun v63 => (kbin .gtr v63 (.int .i64 0)).bind fun v64 => kcond v64 ((gfill (fun i => [(0, 1), (1, 1), (2, 1), (3, 1), (4, 1)][i]?) [(.int .i64 0), (.int .i64 0), .nils, (.int .i64 0), .nils] [(0, (.int .i64 1)), (1, v1)]).bind fun c => kagg c h fun v66 h => (gfill (fun i => some (i * 5, 5)) (zeros [(.int .i64 0), (.int .i64 0), .nils, (.int .i64 0), .nils] 1) [(0, v66)]).bind fun c => kbs 1 5 c h fun v67 h => G .ret v67 h) (G .nrm v4 h)))))
theorem n14_eq (G : KT1 R) : KC k 68 c14 σ h (Q1 G 4) = W4 (n14 k G) 0 1 4 28 σ h := by kernel_rfl
noncomputable def c15 := cL c13
noncomputable def o15 : Array Oper := cO c15
@[simp] def g15_2 {R : Type} (k : Nat) (G : KT4 R) (v0 v1 v4 v31 v33 : GV) (h : Heap) := (kpick v31 (.bool true) v33).bind fun v34 => G .nrm v0 v1 v4 v34 h
theorem g15_2_eq (G : KT4 R) : kgroups PP cfg NN HH 68 o15 [(none, [5, 6])] σ h (fun σ h => G .nrm (σ 0) (σ 1) (σ 4) (σ 28) h) = W5 (g15_2 k G) 0 1 4 31 33 σ h := by kernel_rfl
@[simp] def g15_1 (G : KT4 R) (v0 v1 v4 v31 : GV) (h : Heap) := bif tr false v31 then (kbin .eql v1 (.int .i64 26)).bind fun v33 => g15_2 k G v0 v1 v4 v31 v33 h else g15_2 k G v0 v1 v4 v31 .un h
theorem g15_1_eq (G : KT4 R) : kgroups PP cfg NN HH 68 o15 [(some (2, false), [3, 4]), (none, [5, 6])] σ h (fun σ h => G .nrm (σ 0) (σ 1) (σ 4) (σ 28) h) = W4 (g15_1 k G) 0 1 4 31 σ h := (kgroups_cons (fun σ h => g15_2_eq k σ h G)).trans (by kernel_rfl)
@[simp] def g15_0 (G : KT4 R) (v0 v1 v4 : GV) (h : Heap) := (kbin .eql v1 (.int .i64 24)).bind fun v30 => g15_1 k G v0 v1 v4 v30 h
theorem g15_0_eq (G : KT4 R) : kgroups PP cfg NN HH 68 o15 [(none, [0, 1, 2]), (some (2, false), [3, 4]), (none, [5, 6])] σ h (fun σ h => G .nrm (σ 0) (σ 1) (σ 4) (σ 28) h) = W3 (g15_0 k G) 0 1 4 σ h := (kgroups_cons (fun σ h => g15_1_eq k σ h G)).trans (by kernel_rfl)
@[simp] def n15 (G : KT4 R) (v0 v1 v4 : GV) (h : Heap) := g15_0 k G v0 v1 v4 h
theorem n15_eq (G : KT4 R) : KC k 68 c15 σ h (Q4 G 0 1 4 28) = W3 (n15 k G) 0 1 4 σ h := (kregion_eq (id := 8) (draw := false) (ops := o15) (gs := [(none, [0, 1, 2]), (some (2, false), [3, 4]), (none, [5, 6])]) (by kernel_rfl) (by kernel_rfl) (by kernel_rfl)).trans (g15_0_eq k σ h G)
@[simp] def n13 (G : KT1 R) (v0 v1 v4 : GV) (h : Heap) := n15 k (fun x v0 v1 v4 v28 h => kx x (n14 k G v0 v1 v4 v28 h) (G x v4 h)) v0 v1 v4 h
theorem n13_eq (G : KT1 R) : KC k 68 c13 σ h (Q1 G 4) = W3 (n13 k G) 0 1 4 σ h := (kseq (b := c14) rfl (fun σ h => n14_eq k σ h G)).trans (n15_eq k σ h (fun x v0 v1 v4 v28 h => kx x (n14 k G v0 v1 v4 v28 h) (G x v4 h)))
@[simp] def n11 (G : KT1 R) (v0 v1 v4 v23 : GV) (h : Heap) := kcond v23 (n12 k G v0 v4 h) (n13 k G v0 v1 v4 h)
theorem n11_eq (G : KT1 R) : KC k 68 c11 σ h (Q1 G 4) = W4 (n11 k G) 0 1 4 23 σ h := (kcond_eq (a := c12) (b := c13) rfl (by rfl)).trans (congr (congrArg (kcond (σ 23)) (n12_eq k σ h G)) (n13_eq k σ h G))
noncomputable def c16 := cL c10
@[simp] def n10 (G : KT1 R) (v0 v1 v4 : GV) (h : Heap) := (kbin .eql v1 (.int .i64 27)).bind fun v25 => n11 k G v0 v1 v4 v25 h
theorem n10_eq (G : KT1 R) : KC k 68 c10 σ h (Q1 G 4) = W3 (n10 k G) 0 1 4 σ h := (kseq (a := c16) (b := c11) rfl (fun σ h => n11_eq k σ h G)).trans (by kernel_rfl)
@[simp] def n8 (G : KT1 R) (v0 v1 v4 v14 : GV) (h : Heap) := kcond v14 (n9 k G v0 v1 h) (n10 k G v0 v1 v4 h)
theorem n8_eq (G : KT1 R) : KC k 68 c8 σ h (Q1 G 4) = W4 (n8 k G) 0 1 4 14 σ h := (kcond_eq (a := c9) (b := c10) rfl (by rfl)).trans (congr (congrArg (kcond (σ 14)) (n9_eq k σ h G)) (n10_eq k σ h G))
noncomputable def c17 := cL c7
@[simp] def n7 (G : KT1 R) (v0 v1 v4 : GV) (h : Heap) := (knil v0).bind fun v16 => (kfa 0 v16).bind fun v17 => (kload1 h v17).bind fun v18 => (kbin .eql v18 (.int .i64 5)).bind fun v19 => n8 k G v0 v1 v4 v19 h
theorem n7_eq (G : KT1 R) : KC k 68 c7 σ h (Q1 G 4) = W3 (n7 k G) 0 1 4 σ h := (kseq (a := c17) (b := c8) rfl (fun σ h => n8_eq k σ h G)).trans (by kernel_rfl)
@[simp] def n5 (G : KT1 R) (v0 v1 v4 v5 : GV) (h : Heap) := kcond v5 (n6 k G v0 v1 h) (n7 k G v0 v1 v4 h)
theorem n5_eq (G : KT1 R) : KC k 68 c5 σ h (Q1 G 4) = W4 (n5 k G) 0 1 4 5 σ h := (kcond_eq (a := c6) (b := c7) rfl (by rfl)).trans (congr (congrArg (kcond (σ 5)) (n6_eq k σ h G)) (n7_eq k σ h G))
noncomputable def c18 := cL c4
@[simp] def n4 (G : KT1 R) (v0 v1 v4 : GV) (h : Heap) := (knil v0).bind fun v7 => (kfa 0 v7).bind fun v8 => (kload1 h v8).bind fun v9 => (kbin .eql v9 (.int .i64 4)).bind fun v10 => n5 k G v0 v1 v4 v10 h
theorem n4_eq (G : KT1 R) : KC k 68 c4 σ h (Q1 G 4) = W3 (n4 k G) 0 1 4 σ h := (kseq (a := c18) (b := c5) rfl (fun σ h => n5_eq k σ h G)).trans (by kernel_rfl)
@[simp] def n3 (G : KT1 R) (v0 v1 v4 : GV) (h : Heap) := n4 k (fun x v4 h => kb 0 x fun x => G x v4 h) v0 v1 v4 h
theorem n3_eq (G : KT1 R) : KC k 68 c3 σ h (Q1 G 4) = W3 (n3 k G) 0 1 4 σ h := (kblock_eq (a := c4) rfl).trans (n4_eq k σ h (fun x v4 h => kb 0 x fun x => G x v4 h))
@[simp] def n1 (G : KT1 R) (v0 v1 v4 : GV) (h : Heap) := n3 k (fun x v4 h => kx x (n2 k G h) (G x v4 h)) v0 v1 v4 h
theorem n1_eq (G : KT1 R) : KC k 68 c1 σ h (Q1 G 4) = W3 (n1 k G) 0 1 4 σ h := (kseq (b := c2) rfl (fun σ h => n2_eq k σ h G)).trans (n3_eq k σ h (fun x v4 h => kx x (n2 k G h) (G x v4 h)))
noncomputable def c19 := cL c0
@[simp] def n0 (G : KT1 R) (v0 v1 : GV) (h : Heap) := n1 k G v0 v1 .nils h
theorem n0_eq (G : KT1 R) : KC k 68 c0 σ h (Q1 G 4) = W2 (n0 k G) 0 1 σ h := (kseq (a := c19) (b := c1) rfl (fun σ h => n1_eq k σ h G)).trans (by kernel_rfl)
def run {R : Type} (k : Nat) (a0 a1 : GV) (h : Heap) (fin : GV → Heap → Option R) : Option R := n0 k (fun x v4 h => kend x (fin v4 h)) a0 a1 h
theorem gives {k : Nat} {a0 a1 : GV} {h : Heap} {r : GV × Heap} (e : run k a0 a1 h finH = some r) : HH fn.impl_Parser_step [a0, a1] h = some r := kω_of (((kfun_eq (nt := 68) (c := c0) (show PP.funcs[fn.impl_Parser_step]? = some Try.f226 by kernel_rfl) (by kernel_rfl) (by kernel_rfl) (fun x σ h => by cases x <;> kernel_rfl)).trans (n0_eq k _ h _)).trans e)
end S.impl_Parser_step
namespace S.impl_areParams_1
noncomputable def c0 := bodyOf Try.f244
@[simp] def n0 {R : Type} (k : Nat) (G : KT1 R) (v0 : GV) (h : Heap) := (kN NN fn.impl_in [v0, (.int .i64 0), (.int .i64 9999)] h).bind fun v4 => (kun .not v4).bind fun v5 => G .ret v5 h
theorem n0_eq (G : KT1 R) : KC k 6 c0 σ h (Q1 G 2) = n0 k G (σ 0) h := by kernel_rfl
def run {R : Type} (k : Nat) (a0 : GV) (h : Heap) (fin : GV → Heap → Option R) : Option R := n0 k (fun x v2 h => kend x (fin v2 h)) a0 h
theorem gives {k : Nat} {a0 : GV} {v : GV} (e : run k a0 [] finN = some v) : NN fn.impl_areParams_1 [a0] = some v := nω_of (by kernel_rfl) (((kfun_eq (nt := 6) (c := c0) (show PP.funcs[fn.impl_areParams_1]? = some Try.f244 by kernel_rfl) (by kernel_rfl) (by kernel_rfl) (fun x σ h => by cases x <;> kernel_rfl)).trans (n0_eq k _ [] _)).trans e)
end S.impl_areParams_1
namespace S.impl_areTitle_1
noncomputable def c0 := bodyOf Try.f245
@[simp] def n0 {R : Type} (k : Nat) (G : KT1 R) (v0 : GV) (h : Heap) := (kN NN fn.impl_RuneOk [v0] h).bind fun v4 => (kun .not v4).bind fun v5 => G .ret v5 h
theorem n0_eq (G : KT1 R) : KC k 6 c0 σ h (Q1 G 2) = n0 k G (σ 0) h := by kernel_rfl
def run {R : Type} (k : Nat) (a0 : GV) (h : Heap) (fin : GV → Heap → Option R) : Option R := n0 k (fun x v2 h => kend x (fin v2 h)) a0 h
theorem gives {k : Nat} {a0 : GV} {v : GV} (e : run k a0 [] finN = some v) : NN fn.impl_areTitle_1 [a0] = some v := nω_of (by kernel_rfl) (((kfun_eq (nt := 6) (c := c0) (show PP.funcs[fn.impl_areTitle_1]? = some Try.f245 by kernel_rfl) (by kernel_rfl) (by kernel_rfl) (fun x σ h => by cases x <;> kernel_rfl)).trans (n0_eq k _ [] _)).trans e)
end S.impl_areTitle_1
namespace S.impl_Parser_title
noncomputable def c0 := bodyOf Try.f259
noncomputable def c1 := cR c0
noncomputable def c2 := cR c1
@[simp] def n2 {R : Type} (k : Nat) (G : KT1 R) (h : Heap) := G .ret .nils h
theorem n2_eq (G : KT1 R) : KC k 33 c2 σ h (Q1 G 4) = n2 k G h := by kernel_rfl
noncomputable def c3 := cL c1
noncomputable def c4 := cL c3
@[simp] def n4 {R : Type} (k : Nat) (G : KT1 R) (v0 v1 v4 : GV) (h : Heap) := (kbin .eql v1 (.int .i64 7)).bind fun v7 => kcond v7 ((HH fn.impl_Parser_ended [v0, (.int .i64 92)] h).bind fun r => kr r fun v9 h => G .ret v9 h) ((kbin .eql v1 (.int .i64 27)).bind fun v12 => kcond v12 ((knil v0).bind fun v14 => (kfa 0 v14).bind fun v15 => (kstore 1 h v15 (.int .i64 5)).bind fun h => G .nrm v4 h) ((knil v0).bind fun v18 => (kfa 3 v18).bind fun v19 => (kload1 h v19).bind fun v20 => (klen v20).bind fun v21 => (kbin .lss v21 (.int .i64 40)).bind fun v22 => kcond v22 ((knil v0).bind fun v25 => (kfa 3 v25).bind fun v26 => (kload1 h v26).bind fun v27 => (gfill (fun i => some (i * 1, 1)) (zeros [(.int .i64 0)] 1) [(0, v1)]).bind fun c => kbs 1 1 c h fun v29 h => (kapp [(.int .i64 0)] 1 8 v27 v29 h).bind fun r => kr r fun v30 h => (knil v0).bind fun v31 => (kfa 3 v31).bind fun v32 => (kstore 1 h v32 v30).bind fun h => G .nrm v4 h) (G .nrm v4 h)))
theorem n4_eq (G : KT1 R) : KC k 33 c4 σ h (Q1 G 4) = W3 (n4 k G) 0 1 4 σ h := by kernel_rfl
@[simp] def n3 (G : KT1 R) (v0 v1 v4 : GV) (h : Heap) := n4 k (fun x v4 h => kb 0 x fun x => G x v4 h) v0 v1 v4 h
theorem n3_eq (G : KT1 R) : KC k 33 c3 σ h (Q1 G 4) = W3 (n3 k G) 0 1 4 σ h := (kblock_eq (a := c4) rfl).trans (n4_eq k σ h (fun x v4 h => kb 0 x fun x => G x v4 h))
@[simp] def n1 (G : KT1 R) (v0 v1 v4 : GV) (h : Heap) := n3 k (fun x v4 h => kx x (n2 k G h) (G x v4 h)) v0 v1 v4 h
theorem n1_eq (G : KT1 R) : KC k 33 c1 σ h (Q1 G 4) = W3 (n1 k G) 0 1 4 σ h := (kseq (b := c2) rfl (fun σ h => n2_eq k σ h G)).trans (n3_eq k σ h (fun x v4 h => kx x (n2 k G h) (G x v4 h)))
noncomputable def c5 := cL c0
@[simp] def n0 (G : KT1 R) (v0 v1 : GV) (h : Heap) := n1 k G v0 v1 .nils h
theorem n0_eq (G : KT1 R) : KC k 33 c0 σ h (Q1 G 4) = W2 (n0 k G) 0 1 σ h := (kseq (a := c5) (b := c1) rfl (fun σ h => n1_eq k σ h G)).trans (by kernel_rfl)
def run {R : Type} (k : Nat) (a0 a1 : GV) (h : Heap) (fin : GV → Heap → Option R) : Option R := n0 k (fun x v4 h => kend x (fin v4 h)) a0 a1 h
theorem gives {k : Nat} {a0 a1 : GV} {h : Heap} {r : GV × Heap} (e : run k a0 a1 h finH = some r) : HH fn.impl_Parser_title [a0, a1] h = some r := kω_of (((kfun_eq (nt := 33) (c := c0) (show PP.funcs[fn.impl_Parser_title]? = some Try.f259 by kernel_rfl) (by kernel_rfl) (by kernel_rfl) (fun x σ h => by cases x <;> kernel_rfl)).trans (n0_eq k _ h _)).trans e)
end S.impl_Parser_title
namespace S.impl_Parser_ended
noncomputable def c0 := bodyOf Try.f260
noncomputable def c1 := cR c0
noncomputable def c2 := cR c1
noncomputable def c3 := cR c2
@[simp] def n3 {R : Type} (k : Nat) (G : KT1 R) (v0 v4 v5 : GV) (h : Heap) := (HH fn.impl_Parser_become [v0, (.int .i64 1)] h).bind fun r => kr r fun v18 h => G .ret v5 h
theorem n3_eq (G : KT1 R) : KC k 20 c3 σ h (Q1 G 4) = W3 (n3 k G) 0 4 5 σ h := by kernel_rfl
noncomputable def c4 := cL c2
@[simp] def n2 (G : KT1 R) (v0 v1 v4 v5 : GV) (h : Heap) := (kbin .eql v1 (.int .i64 92)).bind fun v8 => kcond v8 ((knil v0).bind fun v11 => (kfa 3 v11).bind fun v12 => (kload1 h v12).bind fun v13 => (gfill (fun i => [(0, 1), (1, 1), (2, 1), (3, 1), (4, 1)][i]?) [(.int .i64 0), (.int .i64 0), .nils, (.int .i64 0), .nils] [(0, (.int .i64 5)), (4, v13)]).bind fun c => kagg c h fun v14 h => (gfill (fun i => some (i * 5, 5)) (zeros [(.int .i64 0), (.int .i64 0), .nils, (.int .i64 0), .nils] 1) [(0, v14)]).bind fun c => kbs 1 5 c h fun v15 h => (kapp [(.int .i64 0), (.int .i64 0), .nils, (.int .i64 0), .nils] 5 72 v5 v15 h).bind fun r => kr r fun v16 h => n3 k G v0 v4 v16 h) (n3 k G v0 v4 v5 h)
theorem n2_eq (G : KT1 R) : KC k 20 c2 σ h (Q1 G 4) = W4 (n2 k G) 0 1 4 5 σ h := (kseq (a := c4) (b := c3) rfl (fun σ h => n3_eq k σ h G)).trans (by kernel_rfl)
noncomputable def c5 := cL c1
@[simp] def n1 (G : KT1 R) (v0 v1 v4 : GV) (h : Heap) := n2 k G v0 v1 v4 .emp h
theorem n1_eq (G : KT1 R) : KC k 20 c1 σ h (Q1 G 4) = W3 (n1 k G) 0 1 4 σ h := (kseq (a := c5) (b := c2) rfl (fun σ h => n2_eq k σ h G)).trans (by kernel_rfl)
noncomputable def c6 := cL c0
@[simp] def n0 (G : KT1 R) (v0 v1 : GV) (h : Heap) := n1 k G v0 v1 .nils h
theorem n0_eq (G : KT1 R) : KC k 20 c0 σ h (Q1 G 4) = W2 (n0 k G) 0 1 σ h := (kseq (a := c6) (b := c1) rfl (fun σ h => n1_eq k σ h G)).trans (by kernel_rfl)
def run {R : Type} (k : Nat) (a0 a1 : GV) (h : Heap) (fin : GV → Heap → Option R) : Option R := n0 k (fun x v4 h => kend x (fin v4 h)) a0 a1 h
theorem gives {k : Nat} {a0 a1 : GV} {h : Heap} {r : GV × Heap} (e : run k a0 a1 h finH = some r) : HH fn.impl_Parser_ended [a0, a1] h = some r := kω_of (((kfun_eq (nt := 20) (c := c0) (show PP.funcs[fn.impl_Parser_ended]? = some Try.f260 by kernel_rfl) (by kernel_rfl) (by kernel_rfl) (fun x σ h => by cases x <;> kernel_rfl)).trans (n0_eq k _ h _)).trans e)
end S.impl_Parser_ended
namespace S.impl_Parser_become
noncomputable def c0 := bodyOf Try.f261
@[simp] def n0 {R : Type} (k : Nat) (G : KT0 R) (v0 v1 : GV) (h : Heap) := (gfill (fun i => [(0, 1), (1, 1), (2, 1), (3, 1)][i]?) [(.int .i64 0), .nils, (.int .i64 0), .nils] [(0, v1)]).bind fun c => kagg c h fun v6 h => (knil v0).bind fun v7 => (kstore 4 h v7 v6).bind fun h => G .nrm h
theorem n0_eq (G : KT0 R) : KC k 8 c0 σ h (Q0 G) = W2 (n0 k G) 0 1 σ h := by kernel_rfl
def run {R : Type} (k : Nat) (a0 a1 : GV) (h : Heap) (fin : GV → Heap → Option R) : Option R := n0 k (fun x h => kend x (fin (.tup []) h)) a0 a1 h
theorem gives {k : Nat} {a0 a1 : GV} {h : Heap} {r : GV × Heap} (e : run k a0 a1 h finH = some r) : HH fn.impl_Parser_become [a0, a1] h = some r := kω_of (((kfun_eq (nt := 8) (c := c0) (show PP.funcs[fn.impl_Parser_become]? = some Try.f261 by kernel_rfl) (by kernel_rfl) (by kernel_rfl) (fun x σ h => by cases x <;> kernel_rfl)).trans (n0_eq k _ h _)).trans e)
end S.impl_Parser_become
namespace S.impl_isControl
noncomputable def c0 := bodyOf Try.f262
noncomputable def c1 := cR c0
noncomputable def c2 := cR c1
@[simp] def n2 {R : Type} (k : Nat) (G : KT1 R) (v2 : GV) (h : Heap) := G .ret v2 h
theorem n2_eq (G : KT1 R) : KC k 9 c2 σ h (Q1 G 2) = n2 k G (σ 2) h := by kernel_rfl
noncomputable def c3 := cL c1
noncomputable def o3 : Array Oper := cO c3
@[simp] def g3_2 {R : Type} (k : Nat) (G : KT1 R) (v5 v7 : GV) (h : Heap) := (kpick v5 (.bool true) v7).bind fun v8 => G .nrm v8 h
theorem g3_2_eq (G : KT1 R) : kgroups PP cfg NN HH 9 o3 [(none, [5, 6])] σ h (fun σ h => G .nrm (σ 2) h) = W2 (g3_2 k G) 5 7 σ h := by kernel_rfl
@[simp] def g3_1 (G : KT1 R) (v0 v5 : GV) (h : Heap) := bif tr false v5 then (kbin .eql v0 (.int .i64 127)).bind fun v7 => g3_2 k G v5 v7 h else g3_2 k G v5 .un h
theorem g3_1_eq (G : KT1 R) : kgroups PP cfg NN HH 9 o3 [(some (2, false), [3, 4]), (none, [5, 6])] σ h (fun σ h => G .nrm (σ 2) h) = W2 (g3_1 k G) 0 5 σ h := (kgroups_cons (fun σ h => g3_2_eq k σ h G)).trans (by kernel_rfl)
@[simp] def g3_0 (G : KT1 R) (v0 : GV) (h : Heap) := (kbin .lss v0 (.int .i64 32)).bind fun v4 => g3_1 k G v0 v4 h
theorem g3_0_eq (G : KT1 R) : kgroups PP cfg NN HH 9 o3 [(none, [0, 1, 2]), (some (2, false), [3, 4]), (none, [5, 6])] σ h (fun σ h => G .nrm (σ 2) h) = g3_0 k G (σ 0) h := (kgroups_cons (fun σ h => g3_1_eq k σ h G)).trans (by kernel_rfl)
@[simp] def n3 (G : KT1 R) (v0 : GV) (h : Heap) := g3_0 k G v0 h
theorem n3_eq (G : KT1 R) : KC k 9 c3 σ h (Q1 G 2) = n3 k G (σ 0) h := (kregion_eq (id := 1) (draw := false) (ops := o3) (gs := [(none, [0, 1, 2]), (some (2, false), [3, 4]), (none, [5, 6])]) (by kernel_rfl) (by kernel_rfl) (by kernel_rfl)).trans (g3_0_eq k σ h G)
@[simp] def n1 (G : KT1 R) (v0 : GV) (h : Heap) := n3 k (fun x v2 h => kx x (n2 k G v2 h) (G x v2 h)) v0 h
theorem n1_eq (G : KT1 R) : KC k 9 c1 σ h (Q1 G 2) = n1 k G (σ 0) h := (kseq (b := c2) rfl (fun σ h => n2_eq k σ h G)).trans (n3_eq k σ h (fun x v2 h => kx x (n2 k G v2 h) (G x v2 h)))
noncomputable def c4 := cL c0
@[simp] def n0 (G : KT1 R) (v0 : GV) (h : Heap) := n1 k G v0 h
theorem n0_eq (G : KT1 R) : KC k 9 c0 σ h (Q1 G 2) = n0 k G (σ 0) h := (kseq (a := c4) (b := c1) rfl (fun σ h => n1_eq k σ h G)).trans (by kernel_rfl)
def run {R : Type} (k : Nat) (a0 : GV) (h : Heap) (fin : GV → Heap → Option R) : Option R := n0 k (fun x v2 h => kend x (fin v2 h)) a0 h
theorem gives {k : Nat} {a0 : GV} {v : GV} (e : run k a0 [] finN = some v) : NN fn.impl_isControl [a0] = some v := nω_of (by kernel_rfl) (((kfun_eq (nt := 9) (c := c0) (show PP.funcs[fn.impl_isControl]? = some Try.f262 by kernel_rfl) (by kernel_rfl) (by kernel_rfl) (fun x σ h => by cases x <;> kernel_rfl)).trans (n0_eq k _ [] _)).trans e)
end S.impl_isControl
namespace S.impl_Parser_escaped
noncomputable def c0 := bodyOf Try.f263
noncomputable def c1 := cR c0
noncomputable def c2 := cR c1
@[simp] def n2 {R : Type} (k : Nat) (G : KT1 R) (v0 v1 v4 : GV) (h : Heap) := (HH fn.impl_Parser_become [v0, (.int .i64 1)] h).bind fun r => kr r fun v16 h => (kN NN fn.impl_in [v1, (.int .i64 48), (.int .i64 126)] h).bind fun v18 => kcond v18 ((gfill (fun i => [(0, 1), (1, 1), (2, 1), (3, 1), (4, 1)][i]?) [(.int .i64 0), (.int .i64 0), .nils, (.int .i64 0), .nils] [(0, (.int .i64 3)), (1, v1)]).bind fun c => kagg c h fun v20 h => (gfill (fun i => some (i * 5, 5)) (zeros [(.int .i64 0), (.int .i64 0), .nils, (.int .i64 0), .nils] 1) [(0, v20)]).bind fun c => kbs 1 5 c h fun v21 h => G .ret v21 h) (G .ret .nils h)
theorem n2_eq (G : KT1 R) : KC k 22 c2 σ h (Q1 G 4) = W3 (n2 k G) 0 1 4 σ h := by kernel_rfl
noncomputable def c3 := cL c1
noncomputable def c4 := cL c3
@[simp] def n4 {R : Type} (k : Nat) (G : KT3 R) (v0 v1 v4 : GV) (h : Heap) := (kbin .eql v1 (.int .i64 91)).bind fun v7 => kcond v7 ((HH fn.impl_Parser_become [v0, (.int .i64 3)] h).bind fun r => kr r fun v9 h => G .ret v0 v1 .nils h) ((kbin .eql v1 (.int .i64 93)).bind fun v12 => kcond v12 ((HH fn.impl_Parser_become [v0, (.int .i64 4)] h).bind fun r => kr r fun v14 h => G .ret v0 v1 .nils h) (G .nrm v0 v1 v4 h))
theorem n4_eq (G : KT3 R) : KC k 22 c4 σ h (Q3 G 0 1 4) = W3 (n4 k G) 0 1 4 σ h := by kernel_rfl
@[simp] def n3 (G : KT3 R) (v0 v1 v4 : GV) (h : Heap) := n4 k (fun x v0 v1 v4 h => kb 0 x fun x => G x v0 v1 v4 h) v0 v1 v4 h
theorem n3_eq (G : KT3 R) : KC k 22 c3 σ h (Q3 G 0 1 4) = W3 (n3 k G) 0 1 4 σ h := (kblock_eq (a := c4) rfl).trans (n4_eq k σ h (fun x v0 v1 v4 h => kb 0 x fun x => G x v0 v1 v4 h))
@[simp] def n1 (G : KT1 R) (v0 v1 v4 : GV) (h : Heap) := n3 k (fun x v0 v1 v4 h => kx x (n2 k G v0 v1 v4 h) (G x v4 h)) v0 v1 v4 h
theorem n1_eq (G : KT1 R) : KC k 22 c1 σ h (Q1 G 4) = W3 (n1 k G) 0 1 4 σ h := (kseq (b := c2) rfl (fun σ h => n2_eq k σ h G)).trans (n3_eq k σ h (fun x v0 v1 v4 h => kx x (n2 k G v0 v1 v4 h) (G x v4 h)))
noncomputable def c5 := cL c0
@[simp] def n0 (G : KT1 R) (v0 v1 : GV) (h : Heap) := n1 k G v0 v1 .nils h
theorem n0_eq (G : KT1 R) : KC k 22 c0 σ h (Q1 G 4) = W2 (n0 k G) 0 1 σ h := (kseq (a := c5) (b := c1) rfl (fun σ h => n1_eq k σ h G)).trans (by kernel_rfl)
def run {R : Type} (k : Nat) (a0 a1 : GV) (h : Heap) (fin : GV → Heap → Option R) : Option R := n0 k (fun x v4 h => kend x (fin v4 h)) a0 a1 h
theorem gives {k : Nat} {a0 a1 : GV} {h : Heap} {r : GV × Heap} (e : run k a0 a1 h finH = some r) : HH fn.impl_Parser_escaped [a0, a1] h = some r := kω_of (((kfun_eq (nt := 22) (c := c0) (show PP.funcs[fn.impl_Parser_escaped]? = some Try.f263 by kernel_rfl) (by kernel_rfl) (by kernel_rfl) (fun x σ h => by cases x <;> kernel_rfl)).trans (n0_eq k _ h _)).trans e)
end S.impl_Parser_escaped
namespace S.impl_Parser_more
noncomputable def c0 := bodyOf Try.f264
noncomputable def c1 := cR c0
noncomputable def c2 := cR c1
noncomputable def c3 := cR c2
noncomputable def c4 := cR c3
@[simp] def n4 {R : Type} (k : Nat) (G : KT1 R) (v0 v4 v6 : GV) (h : Heap) := (HH fn.impl_Parser_become [v0, (.int .i64 1)] h).bind fun r => kr r fun v117 h => G .ret v6 h
theorem n4_eq (G : KT1 R) : KC k 119 c4 σ h (Q1 G 4) = W3 (n4 k G) 0 4 6 σ h := by kernel_rfl
noncomputable def c5 := cL c3
@[simp] def n3 (G : KT1 R) (v0 v1 v4 v6 : GV) (h : Heap) := (kN NN fn.impl_in [v1, (.int .i64 64), (.int .i64 126)] h).bind fun v102 => kcond v102 ((knil v0).bind fun v106 => (kfa 1 v106).bind fun v107 => (kload1 h v107).bind fun v108 => (knil v0).bind fun v110 => (kfa 2 v110).bind fun v111 => (kload1 h v111).bind fun v112 => (gfill (fun i => [(0, 1), (1, 1), (2, 1), (3, 1), (4, 1)][i]?) [(.int .i64 0), (.int .i64 0), .nils, (.int .i64 0), .nils] [(0, (.int .i64 4)), (1, v1), (2, v108), (3, v112)]).bind fun c => kagg c h fun v113 h => (gfill (fun i => some (i * 5, 5)) (zeros [(.int .i64 0), (.int .i64 0), .nils, (.int .i64 0), .nils] 1) [(0, v113)]).bind fun c => kbs 1 5 c h fun v114 h => (kapp [(.int .i64 0), (.int .i64 0), .nils, (.int .i64 0), .nils] 5 72 v6 v114 h).bind fun r => kr r fun v115 h => n4 k G v0 v4 v115 h) (n4 k G v0 v4 v6 h)
theorem n3_eq (G : KT1 R) : KC k 119 c3 σ h (Q1 G 4) = W4 (n3 k G) 0 1 4 6 σ h := (kseq (a := c5) (b := c4) rfl (fun σ h => n4_eq k σ h G)).trans (by kernel_rfl)
noncomputable def c6 := cL c2
@[simp] def n2 (G : KT1 R) (v0 v1 v4 : GV) (h : Heap) := n3 k G v0 v1 v4 .emp h
theorem n2_eq (G : KT1 R) : KC k 119 c2 σ h (Q1 G 4) = W3 (n2 k G) 0 1 4 σ h := (kseq (a := c6) (b := c3) rfl (fun σ h => n3_eq k σ h G)).trans (by kernel_rfl)
noncomputable def c7 := cL c1
noncomputable def c8 := cL c7
noncomputable def c9 := cR c8
noncomputable def c10 := cL c9
@[simp] def n10 {R : Type} (k : Nat) (G : KT3 R) (v0 v1 v4 : GV) (h : Heap) := (knil v0).bind fun v26 => (kfa 2 v26).bind fun v27 => (kstore 1 h v27 (.int .i64 63)).bind fun h => G .ret v0 v1 .nils h
theorem n10_eq (G : KT3 R) : KC k 119 c10 σ h (Q3 G 0 1 4) = W3 (n10 k G) 0 1 4 σ h := by kernel_rfl
noncomputable def c11 := cR c9
noncomputable def c12 := cR c11
noncomputable def c13 := cL c12
noncomputable def c14 := cR c13
@[simp] def n14 {R : Type} (k : Nat) (G : KT3 R) (v0 v1 v4 : GV) (h : Heap) := (knil v0).bind fun v47 => (kfa 1 v47).bind fun v48 => (kload1 h v48).bind fun v49 => (knil v0).bind fun v51 => (kfa 1 v51).bind fun v52 => (kload1 h v52).bind fun v53 => (klen v53).bind fun v54 => (kbin .sub v54 (.int .i64 1)).bind fun v55 => (kia 1 v49 v55).bind fun v56 => (knil v56).bind fun v59 => (kload1 h v59).bind fun v60 => (kbin .mul v60 (.int .i64 10)).bind fun v61 => (kbin .add v61 v1).bind fun v63 => (kbin .sub v63 (.int .i64 48)).bind fun v64 => (gmin v64 (.int .i64 9999)).bind fun v65 => (knil v56).bind fun v66 => (kstore 1 h v66 v65).bind fun h => G .ret v0 v1 .nils h
theorem n14_eq (G : KT3 R) : KC k 119 c14 σ h (Q3 G 0 1 4) = W3 (n14 k G) 0 1 4 σ h := by kernel_rfl
noncomputable def c15 := cL c13
@[simp] def n13 (G : KT3 R) (v0 v1 v4 : GV) (h : Heap) := (knil v0).bind fun v32 => (kfa 1 v32).bind fun v33 => (kload1 h v33).bind fun v34 => (klen v34).bind fun v35 => (kbin .eql v35 (.int .i64 0)).bind fun v36 => kcond v36 ((knil v0).bind fun v39 => (kfa 1 v39).bind fun v40 => (kload1 h v40).bind fun v41 => (gfill (fun i => some (i * 1, 1)) (zeros [(.int .i64 0)] 1) [(0, (.int .i64 0))]).bind fun c => kbs 1 1 c h fun v42 h => (kapp [(.int .i64 0)] 1 8 v41 v42 h).bind fun r => kr r fun v43 h => (knil v0).bind fun v44 => (kfa 1 v44).bind fun v45 => (kstore 1 h v45 v43).bind fun h => n14 k G v0 v1 v4 h) (n14 k G v0 v1 v4 h)
theorem n13_eq (G : KT3 R) : KC k 119 c13 σ h (Q3 G 0 1 4) = W3 (n13 k G) 0 1 4 σ h := (kseq (a := c15) (b := c14) rfl (fun σ h => n14_eq k σ h G)).trans (by kernel_rfl)
noncomputable def c16 := cR c12
noncomputable def c17 := cR c16
noncomputable def c18 := cL c17
noncomputable def c19 := cR c18
noncomputable def c20 := cR c19
@[simp] def n20 {R : Type} (k : Nat) (G : KT3 R) (v0 v1 : GV) (h : Heap) := G .ret v0 v1 .nils h
theorem n20_eq (G : KT3 R) : KC k 119 c20 σ h (Q3 G 0 1 4) = W2 (n20 k G) 0 1 σ h := by kernel_rfl
noncomputable def c21 := cL c19
@[simp] def n19 (G : KT3 R) (v0 v1 v4 : GV) (h : Heap) := (knil v0).bind fun v86 => (kfa 1 v86).bind fun v87 => (kload1 h v87).bind fun v88 => (klen v88).bind fun v89 => (kbin .lss v89 (.int .i64 16)).bind fun v90 => kcond v90 ((knil v0).bind fun v93 => (kfa 1 v93).bind fun v94 => (kload1 h v94).bind fun v95 => (gfill (fun i => some (i * 1, 1)) (zeros [(.int .i64 0)] 1) [(0, (.int .i64 0))]).bind fun c => kbs 1 1 c h fun v96 h => (kapp [(.int .i64 0)] 1 8 v95 v96 h).bind fun r => kr r fun v97 h => (knil v0).bind fun v98 => (kfa 1 v98).bind fun v99 => (kstore 1 h v99 v97).bind fun h => n20 k G v0 v1 h) (n20 k G v0 v1 h)
theorem n19_eq (G : KT3 R) : KC k 119 c19 σ h (Q3 G 0 1 4) = W3 (n19 k G) 0 1 4 σ h := (kseq (a := c21) (b := c20) rfl (fun σ h => n20_eq k σ h G)).trans (by kernel_rfl)
noncomputable def c22 := cL c18
@[simp] def n18 (G : KT3 R) (v0 v1 v4 : GV) (h : Heap) := (knil v0).bind fun v71 => (kfa 1 v71).bind fun v72 => (kload1 h v72).bind fun v73 => (klen v73).bind fun v74 => (kbin .eql v74 (.int .i64 0)).bind fun v75 => kcond v75 ((knil v0).bind fun v78 => (kfa 1 v78).bind fun v79 => (kload1 h v79).bind fun v80 => (gfill (fun i => some (i * 1, 1)) (zeros [(.int .i64 0)] 1) [(0, (.int .i64 0))]).bind fun c => kbs 1 1 c h fun v81 h => (kapp [(.int .i64 0)] 1 8 v80 v81 h).bind fun r => kr r fun v82 h => (knil v0).bind fun v83 => (kfa 1 v83).bind fun v84 => (kstore 1 h v84 v82).bind fun h => n19 k G v0 v1 v4 h) (n19 k G v0 v1 v4 h)
theorem n18_eq (G : KT3 R) : KC k 119 c18 σ h (Q3 G 0 1 4) = W3 (n18 k G) 0 1 4 σ h := (kseq (a := c22) (b := c19) rfl (fun σ h => n19_eq k σ h G)).trans (by kernel_rfl)
noncomputable def c23 := cR c17
@[simp] def n23 {R : Type} (k : Nat) (G : KT3 R) (v0 v1 v4 : GV) (h : Heap) := G .nrm v0 v1 v4 h
theorem n23_eq (G : KT3 R) : KC k 119 c23 σ h (Q3 G 0 1 4) = W3 (n23 k G) 0 1 4 σ h := by kernel_rfl
@[simp] def n17 (G : KT3 R) (v0 v1 v4 v67 : GV) (h : Heap) := kcond v67 (n18 k G v0 v1 v4 h) (n23 k G v0 v1 v4 h)
theorem n17_eq (G : KT3 R) : KC k 119 c17 σ h (Q3 G 0 1 4) = W4 (n17 k G) 0 1 4 67 σ h := (kcond_eq (a := c18) (b := c23) rfl (by rfl)).trans (congr (congrArg (kcond (σ 67)) (n18_eq k σ h G)) (n23_eq k σ h G))
noncomputable def c24 := cL c16
@[simp] def n16 (G : KT3 R) (v0 v1 v4 : GV) (h : Heap) := (kbin .eql v1 (.int .i64 59)).bind fun v69 => n17 k G v0 v1 v4 v69 h
theorem n16_eq (G : KT3 R) : KC k 119 c16 σ h (Q3 G 0 1 4) = W3 (n16 k G) 0 1 4 σ h := (kseq (a := c24) (b := c17) rfl (fun σ h => n17_eq k σ h G)).trans (by kernel_rfl)
@[simp] def n12 (G : KT3 R) (v0 v1 v4 v28 : GV) (h : Heap) := kcond v28 (n13 k G v0 v1 v4 h) (n16 k G v0 v1 v4 h)
theorem n12_eq (G : KT3 R) : KC k 119 c12 σ h (Q3 G 0 1 4) = W4 (n12 k G) 0 1 4 28 σ h := (kcond_eq (a := c13) (b := c16) rfl (by rfl)).trans (congr (congrArg (kcond (σ 28)) (n13_eq k σ h G)) (n16_eq k σ h G))
noncomputable def c25 := cL c11
@[simp] def n11 (G : KT3 R) (v0 v1 v4 : GV) (h : Heap) := (kN NN fn.impl_in [v1, (.int .i64 48), (.int .i64 57)] h).bind fun v30 => n12 k G v0 v1 v4 v30 h
theorem n11_eq (G : KT3 R) : KC k 119 c11 σ h (Q3 G 0 1 4) = W3 (n11 k G) 0 1 4 σ h := (kseq (a := c25) (b := c12) rfl (fun σ h => n12_eq k σ h G)).trans (by kernel_rfl)
@[simp] def n9 (G : KT3 R) (v0 v1 v4 v7 : GV) (h : Heap) := kcond v7 (n10 k G v0 v1 v4 h) (n11 k G v0 v1 v4 h)
theorem n9_eq (G : KT3 R) : KC k 119 c9 σ h (Q3 G 0 1 4) = W4 (n9 k G) 0 1 4 7 σ h := (kcond_eq (a := c10) (b := c11) rfl (by rfl)).trans (congr (congrArg (kcond (σ 7)) (n10_eq k σ h G)) (n11_eq k σ h G))
noncomputable def c26 := cL c8
noncomputable def o26 : Array Oper := cO c26
@[simp] def g26_4 {R : Type} (k : Nat) (G : KT4 R) (v0 v1 v4 v18 v23 : GV) (h : Heap) := (kpick v18 v23 (.bool false)).bind fun v24 => G .nrm v0 v1 v4 v24 h
theorem g26_4_eq (G : KT4 R) : kgroups PP cfg NN HH 119 o26 [(none, [16, 17])] σ h (fun σ h => G .nrm (σ 0) (σ 1) (σ 4) (σ 7) h) = W5 (g26_4 k G) 0 1 4 18 23 σ h := by kernel_rfl
@[simp] def g26_3 (G : KT4 R) (v0 v1 v4 v18 : GV) (h : Heap) := bif tr true v18 then (knil v0).bind fun v20 => (kfa 2 v20).bind fun v21 => (kload1 h v21).bind fun v22 => (kbin .eql v22 (.int .i64 0)).bind fun v23 => g26_4 k G v0 v1 v4 v18 v23 h else g26_4 k G v0 v1 v4 v18 .un h
theorem g26_3_eq (G : KT4 R) : kgroups PP cfg NN HH 119 o26 [(some (10, true), [11, 12, 13, 14, 15]), (none, [16, 17])] σ h (fun σ h => G .nrm (σ 0) (σ 1) (σ 4) (σ 7) h) = W4 (g26_3 k G) 0 1 4 18 σ h := (kgroups_cons (fun σ h => g26_4_eq k σ h G)).trans (by kernel_rfl)
@[simp] def g26_2 (G : KT4 R) (v0 v1 v4 v10 v16 : GV) (h : Heap) := (kpick v10 v16 (.bool false)).bind fun v17 => g26_3 k G v0 v1 v4 v17 h
theorem g26_2_eq (G : KT4 R) : kgroups PP cfg NN HH 119 o26 [(none, [9, 10]), (some (10, true), [11, 12, 13, 14, 15]), (none, [16, 17])] σ h (fun σ h => G .nrm (σ 0) (σ 1) (σ 4) (σ 7) h) = W5 (g26_2 k G) 0 1 4 10 16 σ h := (kgroups_cons (fun σ h => g26_3_eq k σ h G)).trans (by kernel_rfl)
@[simp] def g26_1 (G : KT4 R) (v0 v1 v4 v10 : GV) (h : Heap) := bif tr true v10 then (knil v0).bind fun v12 => (kfa 1 v12).bind fun v13 => (kload1 h v13).bind fun v14 => (klen v14).bind fun v15 => (kbin .eql v15 (.int .i64 0)).bind fun v16 => g26_2 k G v0 v1 v4 v10 v16 h else g26_2 k G v0 v1 v4 v10 .un h
theorem g26_1_eq (G : KT4 R) : kgroups PP cfg NN HH 119 o26 [(some (2, true), [3, 4, 5, 6, 7, 8]), (none, [9, 10]), (some (10, true), [11, 12, 13, 14, 15]), (none, [16, 17])] σ h (fun σ h => G .nrm (σ 0) (σ 1) (σ 4) (σ 7) h) = W4 (g26_1 k G) 0 1 4 10 σ h := (kgroups_cons (fun σ h => g26_2_eq k σ h G)).trans (by kernel_rfl)
@[simp] def g26_0 (G : KT4 R) (v0 v1 v4 : GV) (h : Heap) := (kbin .eql v1 (.int .i64 63)).bind fun v9 => g26_1 k G v0 v1 v4 v9 h
theorem g26_0_eq (G : KT4 R) : kgroups PP cfg NN HH 119 o26 [(none, [0, 1, 2]), (some (2, true), [3, 4, 5, 6, 7, 8]), (none, [9, 10]), (some (10, true), [11, 12, 13, 14, 15]), (none, [16, 17])] σ h (fun σ h => G .nrm (σ 0) (σ 1) (σ 4) (σ 7) h) = W3 (g26_0 k G) 0 1 4 σ h := (kgroups_cons (fun σ h => g26_1_eq k σ h G)).trans (by kernel_rfl)
@[simp] def n26 (G : KT4 R) (v0 v1 v4 : GV) (h : Heap) := g26_0 k G v0 v1 v4 h
theorem n26_eq (G : KT4 R) : KC k 119 c26 σ h (Q4 G 0 1 4 7) = W3 (n26 k G) 0 1 4 σ h := (kregion_eq (id := 1) (draw := false) (ops := o26) (gs := [(none, [0, 1, 2]), (some (2, true), [3, 4, 5, 6, 7, 8]), (none, [9, 10]), (some (10, true), [11, 12, 13, 14, 15]), (none, [16, 17])]) (by kernel_rfl) (by kernel_rfl) (by kernel_rfl)).trans (g26_0_eq k σ h G)
@[simp] def n8 (G : KT3 R) (v0 v1 v4 : GV) (h : Heap) := n26 k (fun x v0 v1 v4 v7 h => kx x (n9 k G v0 v1 v4 v7 h) (G x v0 v1 v4 h)) v0 v1 v4 h
theorem n8_eq (G : KT3 R) : KC k 119 c8 σ h (Q3 G 0 1 4) = W3 (n8 k G) 0 1 4 σ h := (kseq (b := c9) rfl (fun σ h => n9_eq k σ h G)).trans (n26_eq k σ h (fun x v0 v1 v4 v7 h => kx x (n9 k G v0 v1 v4 v7 h) (G x v0 v1 v4 h)))
@[simp] def n7 (G : KT3 R) (v0 v1 v4 : GV) (h : Heap) := n8 k (fun x v0 v1 v4 h => kb 0 x fun x => G x v0 v1 v4 h) v0 v1 v4 h
theorem n7_eq (G : KT3 R) : KC k 119 c7 σ h (Q3 G 0 1 4) = W3 (n7 k G) 0 1 4 σ h := (kblock_eq (a := c8) rfl).trans (n8_eq k σ h (fun x v0 v1 v4 h => kb 0 x fun x => G x v0 v1 v4 h))
@[simp] def n1 (G : KT1 R) (v0 v1 v4 : GV) (h : Heap) := n7 k (fun x v0 v1 v4 h => kx x (n2 k G v0 v1 v4 h) (G x v4 h)) v0 v1 v4 h
theorem n1_eq (G : KT1 R) : KC k 119 c1 σ h (Q1 G 4) = W3 (n1 k G) 0 1 4 σ h := (kseq (b := c2) rfl (fun σ h => n2_eq k σ h G)).trans (n7_eq k σ h (fun x v0 v1 v4 h => kx x (n2 k G v0 v1 v4 h) (G x v4 h)))
noncomputable def c27 := cL c0
@[simp] def n0 (G : KT1 R) (v0 v1 : GV) (h : Heap) := n1 k G v0 v1 .nils h
theorem n0_eq (G : KT1 R) : KC k 119 c0 σ h (Q1 G 4) = W2 (n0 k G) 0 1 σ h := (kseq (a := c27) (b := c1) rfl (fun σ h => n1_eq k σ h G)).trans (by kernel_rfl)
def run {R : Type} (k : Nat) (a0 a1 : GV) (h : Heap) (fin : GV → Heap → Option R) : Option R := n0 k (fun x v4 h => kend x (fin v4 h)) a0 a1 h
theorem gives {k : Nat} {a0 a1 : GV} {h : Heap} {r : GV × Heap} (e : run k a0 a1 h finH = some r) : HH fn.impl_Parser_more [a0, a1] h = some r := kω_of (((kfun_eq (nt := 119) (c := c0) (show PP.funcs[fn.impl_Parser_more]? = some Try.f264 by kernel_rfl) (by kernel_rfl) (by kernel_rfl) (fun x σ h => by cases x <;> kernel_rfl)).trans (n0_eq k _ h _)).trans e)
end S.impl_Parser_more
end
end Go.Proofs.Ytlbnioapepelnaa.G
