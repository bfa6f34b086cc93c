/- What these functions do, told for open values, out of the machine with continuations. Printed by a program of this session. -/
import Derived.Test.YtlbnioapepelnaaZc519251f
import Derived.KernelRfl
set_option linter.unusedVariables false
set_option maxRecDepth 100000
namespace Go.Proofs.Ytlbnioapepelnaa.G
open Go.RowKit
noncomputable section
variable {R : Type} (k : Nat) (σ : GS) (h : Heap)
namespace S.laws_szChain
noncomputable def c0 := bodyOf Try.f14
@[simp] def n0 {R : Type} (k : Nat) (G : KT1 R) (v0 v1 : GV) (h : Heap) := kbox v0 h fun v2 h => (kfa 0 v2).bind fun v5 => (kload1 h v5).bind fun v6 => (kN NN fn.laws_szServerS [v6, v1] h).bind fun v8 => (kbin .lss v8 (.int .i64 0)).bind fun v10 => kcond v10 (G .ret (.int .i64 (-1)) h) ((kfa 1 v2).bind fun v11 => (kload1 h v11).bind fun v12 => (kN NN fn.laws_szStringSS [v12, v8] h).bind fun v14 => (kbin .lss v14 (.int .i64 0)).bind fun v16 => kcond v16 (G .ret (.int .i64 (-1)) h) ((kfa 2 v2).bind fun v17 => (kload1 h v17).bind fun v18 => (kN NN fn.laws_szInt64SS [v18, v14] h).bind fun v20 => (kbin .lss v20 (.int .i64 0)).bind fun v22 => kcond v22 (G .ret (.int .i64 (-1)) h) (G .ret v20 h)))
theorem n0_eq (G : KT1 R) : KC k 24 c0 σ h (Q1 G 4) = W2 (n0 k G) 0 1 σ h := by kernel_rfl
def run {R : Type} (k : Nat) (a0 a1 : GV) (h : Heap) (fin : GV → Heap → Option R) : Option R := n0 k (fun x v4 h => kend x (fin v4 h)) a0 a1 h
theorem gives {k : Nat} {a0 a1 : GV} {v : GV} (e : run k a0 a1 [] finN = some v) : NN fn.laws_szChain [a0, a1] = some v := nω_of (by kernel_rfl) (((kfun_eq (nt := 24) (c := c0) (show PP.funcs[fn.laws_szChain]? = some Try.f14 by kernel_rfl) (by kernel_rfl) (by kernel_rfl) (fun x σ h => by cases x <;> kernel_rfl)).trans (n0_eq k _ [] _)).trans e)
end S.laws_szChain
namespace S.laws_toChain
noncomputable def c0 := bodyOf Try.f16
@[simp] def n0 {R : Type} (k : Nat) (G : KT1 R) (v0 : GV) (h : Heap) := kbox v0 h fun v1 h => kalloc [.nils, .nils, .nils] h fun v2 h => kalloc [.nils, .nils, .nils] h fun v3 h => (kfa 0 v1).bind fun v4 => (kload1 h v4).bind fun v5 => (kF false HH fn.laws_toServerS [v5] h).bind fun r => kr r fun v6 h => (kfa 0 v3).bind fun v7 => (kstore 1 h v7 v6).bind fun h => (kfa 1 v1).bind fun v8 => (kload1 h v8).bind fun v9 => (kF false HH fn.laws_toStringSS [v9] h).bind fun r => kr r fun v10 h => (kfa 1 v3).bind fun v11 => (kstore 1 h v11 v10).bind fun h => (kfa 2 v1).bind fun v12 => (kload1 h v12).bind fun v13 => (kF false HH fn.laws_toInt64SS [v13] h).bind fun r => kr r fun v14 h => (kfa 2 v3).bind fun v15 => (kstore 1 h v15 v14).bind fun h => (kloadA 3 h v3).bind fun v16 => (kstore 3 h v2 v16).bind fun h => G .ret v2 h
theorem n0_eq (G : KT1 R) : KC k 17 c0 σ h (Q1 G 2) = n0 k G (σ 0) h := by kernel_rfl
def run {R : Type} (k : Nat) (a0 : GV) (h : Heap) (fin : GV → Heap → Option R) : Option R := n0 k (fun x v2 h => kend x ((kloadA 3 h v2).bind fun w2 => fin w2 h)) a0 h
theorem gives {k : Nat} {a0 : GV} {b : Nat} {q : GV × List (List GV)} (e : run k a0 [] (finO b) = some q) : OO fn.laws_toChain [a0] b = some q := oω_of (((kfun_eq (nt := 17) (c := c0) (show PP.funcs[fn.laws_toChain]? = some Try.f16 by kernel_rfl) (by kernel_rfl) (by kernel_rfl) (fun x σ h => by cases x <;> kernel_rfl)).trans (n0_eq k _ [] _)).trans e)
end S.laws_toChain
namespace S.laws_eqChain
noncomputable def c0 := bodyOf Try.f18
@[simp] def n0 {R : Type} (k : Nat) (G : KT1 R) (v0 v1 : GV) (h : Heap) := kbox v0 h fun v2 h => kbox v1 h fun v3 h => (kfa 0 v2).bind fun v5 => (kload1 h v5).bind fun v6 => (kfa 0 v3).bind fun v7 => (kload1 h v7).bind fun v8 => (kN NN fn.laws_eqServerS [v6, v8] h).bind fun v9 => (kun .not v9).bind fun v10 => kcond v10 (G .ret (.bool false) h) ((kfa 1 v2).bind fun v11 => (kload1 h v11).bind fun v12 => (kfa 1 v3).bind fun v13 => (kload1 h v13).bind fun v14 => (kN NN fn.laws_eqStringSS [v12, v14] h).bind fun v15 => (kun .not v15).bind fun v16 => kcond v16 (G .ret (.bool false) h) ((kfa 2 v2).bind fun v17 => (kload1 h v17).bind fun v18 => (kfa 2 v3).bind fun v19 => (kload1 h v19).bind fun v20 => (kN NN fn.laws_eqInt64SS [v18, v20] h).bind fun v21 => (kun .not v21).bind fun v22 => kcond v22 (G .ret (.bool false) h) (G .ret (.bool true) h)))
theorem n0_eq (G : KT1 R) : KC k 23 c0 σ h (Q1 G 4) = W2 (n0 k G) 0 1 σ h := by kernel_rfl
def run {R : Type} (k : Nat) (a0 a1 : GV) (h : Heap) (fin : GV → Heap → Option R) : Option R := n0 k (fun x v4 h => kend x (fin v4 h)) a0 a1 h
theorem gives {k : Nat} {a0 a1 : GV} {v : GV} (e : run k a0 a1 [] finN = some v) : NN fn.laws_eqChain [a0, a1] = some v := nω_of (by kernel_rfl) (((kfun_eq (nt := 23) (c := c0) (show PP.funcs[fn.laws_eqChain]? = some Try.f18 by kernel_rfl) (by kernel_rfl) (by kernel_rfl) (fun x σ h => by cases x <;> kernel_rfl)).trans (n0_eq k _ [] _)).trans e)
end S.laws_eqChain
namespace S.laws_markChain
noncomputable def c0 := bodyOf Try.f19
@[simp] def n0 {R : Type} (k : Nat) (G : KT1 R) (v0 v1 : GV) (h : Heap) := kbox v0 h fun v2 h => (kfa 0 v2).bind fun v5 => (kload1 h v5).bind fun v6 => (HH fn.laws_markServerS [v6, v1] h).bind fun r => kr r fun v8 h => (kfa 1 v2).bind fun v9 => (kload1 h v9).bind fun v10 => (HH fn.laws_markStringSS [v10, v8] h).bind fun r => kr r fun v12 h => (kfa 2 v2).bind fun v13 => (kload1 h v13).bind fun v14 => (HH fn.laws_markInt64SS [v14, v12] h).bind fun r => kr r fun v16 h => G .ret v16 h
theorem n0_eq (G : KT1 R) : KC k 18 c0 σ h (Q1 G 4) = W2 (n0 k G) 0 1 σ h := by kernel_rfl
def run {R : Type} (k : Nat) (a0 a1 : GV) (h : Heap) (fin : GV → Heap → Option R) : Option R := n0 k (fun x v4 h => kend x (fin v4 h)) a0 a1 h
theorem gives {k : Nat} {a0 a1 : GV} {h : Heap} {r : GV × Heap} (e : run k a0 a1 h finH = some r) : HH fn.laws_markChain [a0, a1] h = some r := kω_of (((kfun_eq (nt := 18) (c := c0) (show PP.funcs[fn.laws_markChain]? = some Try.f19 by kernel_rfl) (by kernel_rfl) (by kernel_rfl) (fun x σ h => by cases x <;> kernel_rfl)).trans (n0_eq k _ h _)).trans e)
end S.laws_markChain
namespace S.laws_heldChain
noncomputable def c0 := bodyOf Try.f20
@[simp] def n0 {R : Type} (k : Nat) (G : KT1 R) (v0 v1 : GV) (h : Heap) := kbox v0 h fun v2 h => (kfa 0 v2).bind fun v5 => (kload1 h v5).bind fun v6 => (kN NN fn.laws_heldServerS [v6, v1] h).bind fun v8 => (kbin .lss v8 (.int .i64 0)).bind fun v10 => kcond v10 (G .ret (.int .i64 (-1)) h) ((kfa 1 v2).bind fun v11 => (kload1 h v11).bind fun v12 => (kN NN fn.laws_heldStringSS [v12, v8] h).bind fun v14 => (kbin .lss v14 (.int .i64 0)).bind fun v16 => kcond v16 (G .ret (.int .i64 (-1)) h) ((kfa 2 v2).bind fun v17 => (kload1 h v17).bind fun v18 => (kN NN fn.laws_heldInt64SS [v18, v14] h).bind fun v20 => (kbin .lss v20 (.int .i64 0)).bind fun v22 => kcond v22 (G .ret (.int .i64 (-1)) h) (G .ret v20 h)))
theorem n0_eq (G : KT1 R) : KC k 24 c0 σ h (Q1 G 4) = W2 (n0 k G) 0 1 σ h := by kernel_rfl
def run {R : Type} (k : Nat) (a0 a1 : GV) (h : Heap) (fin : GV → Heap → Option R) : Option R := n0 k (fun x v4 h => kend x (fin v4 h)) a0 a1 h
theorem gives {k : Nat} {a0 a1 : GV} {v : GV} (e : run k a0 a1 [] finN = some v) : NN fn.laws_heldChain [a0, a1] = some v := nω_of (by kernel_rfl) (((kfun_eq (nt := 24) (c := c0) (show PP.funcs[fn.laws_heldChain]? = some Try.f20 by kernel_rfl) (by kernel_rfl) (by kernel_rfl) (fun x σ h => by cases x <;> kernel_rfl)).trans (n0_eq k _ [] _)).trans e)
end S.laws_heldChain
namespace S.laws_toInt64S
noncomputable def c0 := bodyOf Try.f73
noncomputable def c1 := cR c0
noncomputable def c2 := cR c1
noncomputable def c3 := cR c2
@[simp] def n3 {R : Type} (k : Nat) (G : KT1 R) (v3 : GV) (h : Heap) := G .ret v3 h
theorem n3_eq (G : KT1 R) : KC k 22 c3 σ h (Q1 G 2) = n3 k G (σ 3) h := by kernel_rfl
noncomputable def c4 := cL c2
noncomputable def c5 := cR c4
noncomputable def c6 := cL c5
noncomputable def c7 := cL c6
noncomputable def c8 := cR c7
noncomputable def c9 := cR c8
@[simp] def n9 {R : Type} (k : Nat) (G : KT4 R) (v0 v2 v3 v4 : GV) (h : Heap) := (kbin .add v4 (.int .i64 1)).bind fun v13 => G .nrm v0 v2 v3 v13 h
theorem n9_eq (G : KT4 R) : KC k 22 c9 σ h (Q4 G 0 2 3 4) = W4 (n9 k G) 0 2 3 4 σ h := by kernel_rfl
noncomputable def c10 := cL c8
noncomputable def c11 := cL c10
@[simp] def n11 {R : Type} (k : Nat) (G : KT4 R) (v0 v2 v3 v4 : GV) (h : Heap) := (kia 1 v0 v4).bind fun v18 => (kload1 h v18).bind fun v19 => (kia 1 v3 v4).bind fun v20 => (kstore 1 h v20 v19).bind fun h => G .nrm v0 v2 v3 v4 h
theorem n11_eq (G : KT4 R) : KC k 22 c11 σ h (Q4 G 0 2 3 4) = W4 (n11 k G) 0 2 3 4 σ h := by kernel_rfl
@[simp] def n10 (G : KT4 R) (v0 v2 v3 v4 : GV) (h : Heap) := n11 k (fun x v0 v2 v3 v4 h => kb 1 x fun x => G x v0 v2 v3 v4 h) v0 v2 v3 v4 h
theorem n10_eq (G : KT4 R) : KC k 22 c10 σ h (Q4 G 0 2 3 4) = W4 (n10 k G) 0 2 3 4 σ h := (kblock_eq (a := c11) rfl).trans (n11_eq k σ h (fun x v0 v2 v3 v4 h => kb 1 x fun x => G x v0 v2 v3 v4 h))
@[simp] def n8 (G : KT4 R) (v0 v2 v3 v4 : GV) (h : Heap) := n10 k (fun x v0 v2 v3 v4 h => kx x (n9 k G v0 v2 v3 v4 h) (G x v0 v2 v3 v4 h)) v0 v2 v3 v4 h
theorem n8_eq (G : KT4 R) : KC k 22 c8 σ h (Q4 G 0 2 3 4) = W4 (n8 k G) 0 2 3 4 σ h := (kseq (b := c9) rfl (fun σ h => n9_eq k σ h G)).trans (n10_eq k σ h (fun x v0 v2 v3 v4 h => kx x (n9 k G v0 v2 v3 v4 h) (G x v0 v2 v3 v4 h)))
noncomputable def c12 := cL c7
@[simp] def n7 (G : KT4 R) (v0 v2 v3 v4 : GV) (h : Heap) := (klen v0).bind fun v10 => (kbin .lss v4 v10).bind fun v11 => kcond v11 (n8 k G v0 v2 v3 v4 h) (G (.ext 0) v0 v2 v3 v4 h)
theorem n7_eq (G : KT4 R) : KC k 22 c7 σ h (Q4 G 0 2 3 4) = W4 (n7 k G) 0 2 3 4 σ h := (kseq (a := c12) (b := c8) rfl (fun σ h => n8_eq k σ h G)).trans (by kernel_rfl)
def l6 {R : Type} (k : Nat) (G : KT2 R) : Nat → GV → GV → GV → GV → Heap → Option R
  | 0, _, _, _, _, _ => none
  | r + 1, v0, v2, v3, v4, h => n7 k (fun x v0 v2 v3 v4 h => kx x (l6 k G r v0 v2 v3 v4 h) (G x v2 v3 h)) v0 v2 v3 v4 h
theorem l6_eq {R : Type} (k : Nat) (G : KT2 R) : ∀ (r : Nat) (σ : GS) (h : Heap), kloop (fun σ h K => KC k 22 c7 σ h K) r σ h (Q2 G 2 3) = l6 k G r (σ 0) (σ 2) (σ 3) (σ 4) h
  | 0, _, _ => rfl
  | r + 1, σ, h => (kloop_eq (fun σ h => l6_eq k G r σ h)).trans (n7_eq k σ h (fun x v0 v2 v3 v4 h => kx x (l6 k G r v0 v2 v3 v4 h) (G x v2 v3 h)))
@[simp] def n6 (G : KT2 R) (v0 v2 v3 v4 : GV) (h : Heap) := l6 k G k v0 v2 v3 v4 h
theorem n6_eq (G : KT2 R) : KC k 22 c6 σ h (Q2 G 2 3) = W4 (n6 k G) 0 2 3 4 σ h := (kloopc_eq (a := c7) rfl).trans (l6_eq k G k σ h)
@[simp] def n5 (G : KT2 R) (v0 v2 v3 v4 : GV) (h : Heap) := n6 k (fun x v2 v3 h => kb 0 x fun x => G x v2 v3 h) v0 v2 v3 v4 h
theorem n5_eq (G : KT2 R) : KC k 22 c5 σ h (Q2 G 2 3) = W4 (n5 k G) 0 2 3 4 σ h := (kblock_eq (a := c6) rfl).trans (n6_eq k σ h (fun x v2 v3 h => kb 0 x fun x => G x v2 v3 h))
noncomputable def c13 := cL c4
@[simp] def n4 (G : KT2 R) (v0 v2 v3 : GV) (h : Heap) := n5 k G v0 v2 v3 (.int .i64 0) h
theorem n4_eq (G : KT2 R) : KC k 22 c4 σ h (Q2 G 2 3) = W3 (n4 k G) 0 2 3 σ h := (kseq (a := c13) (b := c5) rfl (fun σ h => n5_eq k σ h G)).trans (by kernel_rfl)
@[simp] def n2 (G : KT1 R) (v0 v2 v3 : GV) (h : Heap) := n4 k (fun x v2 v3 h => kx x (n3 k G v3 h) (G x v2 h)) v0 v2 v3 h
theorem n2_eq (G : KT1 R) : KC k 22 c2 σ h (Q1 G 2) = W3 (n2 k G) 0 2 3 σ h := (kseq (b := c3) rfl (fun σ h => n3_eq k σ h G)).trans (n4_eq k σ h (fun x v2 v3 h => kx x (n3 k G v3 h) (G x v2 h)))
noncomputable def c14 := cL c1
@[simp] def n1 (G : KT1 R) (v0 v2 : GV) (h : Heap) := (klen v0).bind fun v6 => (kmake [(.int .i64 0)] 1 8 v6 v6 h).bind fun r => kr r fun v7 h => n2 k G v0 v2 v7 h
theorem n1_eq (G : KT1 R) : KC k 22 c1 σ h (Q1 G 2) = W2 (n1 k G) 0 2 σ h := (kseq (a := c14) (b := c2) rfl (fun σ h => n2_eq k σ h G)).trans (by kernel_rfl)
noncomputable def c15 := cL c0
@[simp] def n0 (G : KT1 R) (v0 : GV) (h : Heap) := n1 k G v0 .nils h
theorem n0_eq (G : KT1 R) : KC k 22 c0 σ h (Q1 G 2) = n0 k G (σ 0) h := (kseq (a := c15) (b := c1) rfl (fun σ h => n1_eq k σ h G)).trans (by kernel_rfl)
def run {R : Type} (k : Nat) (a0 : GV) (h : Heap) (fin : GV → Heap → Option R) : Option R := n0 k (fun x v2 h => kend x (fin v2 h)) a0 h
theorem gives {k : Nat} {a0 : GV} {b : Nat} {q : GV × List (List GV)} (e : run k a0 [] (finO b) = some q) : OO fn.laws_toInt64S [a0] b = some q := oω_of (((kfun_eq (nt := 22) (c := c0) (show PP.funcs[fn.laws_toInt64S]? = some Try.f73 by kernel_rfl) (by kernel_rfl) (by kernel_rfl) (fun x σ h => by cases x <;> kernel_rfl)).trans (n0_eq k _ [] _)).trans e)
end S.laws_toInt64S
namespace S.laws_eqInt64S
noncomputable def c0 := bodyOf Try.f75
noncomputable def c1 := cR c0
noncomputable def c2 := cR c1
noncomputable def c3 := cR c2
@[simp] def n3 {R : Type} (k : Nat) (G : KT1 R) (h : Heap) := G .ret (.bool true) h
theorem n3_eq (G : KT1 R) : KC k 26 c3 σ h (Q1 G 4) = n3 k G h := by kernel_rfl
noncomputable def c4 := cL c2
noncomputable def c5 := cR c4
noncomputable def c6 := cL c5
noncomputable def c7 := cL c6
noncomputable def c8 := cR c7
noncomputable def c9 := cR c8
@[simp] def n9 {R : Type} (k : Nat) (G : KT4 R) (v0 v1 v4 v5 : GV) (h : Heap) := (kbin .add v5 (.int .i64 1)).bind fun v16 => G .nrm v0 v1 v4 v16 h
theorem n9_eq (G : KT4 R) : KC k 26 c9 σ h (Q4 G 0 1 4 5) = W4 (n9 k G) 0 1 4 5 σ h := by kernel_rfl
noncomputable def c10 := cL c8
noncomputable def c11 := cL c10
@[simp] def n11 {R : Type} (k : Nat) (G : KT4 R) (v0 v1 v4 v5 : GV) (h : Heap) := (kia 1 v0 v5).bind fun v19 => (kload1 h v19).bind fun v20 => (kia 1 v1 v5).bind fun v23 => (kload1 h v23).bind fun v24 => (kbin .neq v20 v24).bind fun v25 => kcond v25 (G .ret v0 v1 (.bool false) v5 h) (G .nrm v0 v1 v4 v5 h)
theorem n11_eq (G : KT4 R) : KC k 26 c11 σ h (Q4 G 0 1 4 5) = W4 (n11 k G) 0 1 4 5 σ h := by kernel_rfl
@[simp] def n10 (G : KT4 R) (v0 v1 v4 v5 : GV) (h : Heap) := n11 k (fun x v0 v1 v4 v5 h => kb 1 x fun x => G x v0 v1 v4 v5 h) v0 v1 v4 v5 h
theorem n10_eq (G : KT4 R) : KC k 26 c10 σ h (Q4 G 0 1 4 5) = W4 (n10 k G) 0 1 4 5 σ h := (kblock_eq (a := c11) rfl).trans (n11_eq k σ h (fun x v0 v1 v4 v5 h => kb 1 x fun x => G x v0 v1 v4 v5 h))
@[simp] def n8 (G : KT4 R) (v0 v1 v4 v5 : GV) (h : Heap) := n10 k (fun x v0 v1 v4 v5 h => kx x (n9 k G v0 v1 v4 v5 h) (G x v0 v1 v4 v5 h)) v0 v1 v4 v5 h
theorem n8_eq (G : KT4 R) : KC k 26 c8 σ h (Q4 G 0 1 4 5) = W4 (n8 k G) 0 1 4 5 σ h := (kseq (b := c9) rfl (fun σ h => n9_eq k σ h G)).trans (n10_eq k σ h (fun x v0 v1 v4 v5 h => kx x (n9 k G v0 v1 v4 v5 h) (G x v0 v1 v4 v5 h)))
noncomputable def c12 := cL c7
@[simp] def n7 (G : KT4 R) (v0 v1 v4 v5 : GV) (h : Heap) := (klen v0).bind fun v13 => (kbin .lss v5 v13).bind fun v14 => kcond v14 (n8 k G v0 v1 v4 v5 h) (G (.ext 0) v0 v1 v4 v5 h)
theorem n7_eq (G : KT4 R) : KC k 26 c7 σ h (Q4 G 0 1 4 5) = W4 (n7 k G) 0 1 4 5 σ h := (kseq (a := c12) (b := c8) rfl (fun σ h => n8_eq k σ h G)).trans (by kernel_rfl)
def l6 {R : Type} (k : Nat) (G : KT1 R) : Nat → GV → GV → GV → GV → Heap → Option R
  | 0, _, _, _, _, _ => none
  | r + 1, v0, v1, v4, v5, h => n7 k (fun x v0 v1 v4 v5 h => kx x (l6 k G r v0 v1 v4 v5 h) (G x v4 h)) v0 v1 v4 v5 h
theorem l6_eq {R : Type} (k : Nat) (G : KT1 R) : ∀ (r : Nat) (σ : GS) (h : Heap), kloop (fun σ h K => KC k 26 c7 σ h K) r σ h (Q1 G 4) = l6 k G r (σ 0) (σ 1) (σ 4) (σ 5) h
  | 0, _, _ => rfl
  | r + 1, σ, h => (kloop_eq (fun σ h => l6_eq k G r σ h)).trans (n7_eq k σ h (fun x v0 v1 v4 v5 h => kx x (l6 k G r v0 v1 v4 v5 h) (G x v4 h)))
@[simp] def n6 (G : KT1 R) (v0 v1 v4 v5 : GV) (h : Heap) := l6 k G k v0 v1 v4 v5 h
theorem n6_eq (G : KT1 R) : KC k 26 c6 σ h (Q1 G 4) = W4 (n6 k G) 0 1 4 5 σ h := (kloopc_eq (a := c7) rfl).trans (l6_eq k G k σ h)
@[simp] def n5 (G : KT1 R) (v0 v1 v4 v5 : GV) (h : Heap) := n6 k (fun x v4 h => kb 0 x fun x => G x v4 h) v0 v1 v4 v5 h
theorem n5_eq (G : KT1 R) : KC k 26 c5 σ h (Q1 G 4) = W4 (n5 k G) 0 1 4 5 σ h := (kblock_eq (a := c6) rfl).trans (n6_eq k σ h (fun x v4 h => kb 0 x fun x => G x v4 h))
noncomputable def c13 := cL c4
@[simp] def n4 (G : KT1 R) (v0 v1 v4 : GV) (h : Heap) := n5 k G v0 v1 v4 (.int .i64 0) h
theorem n4_eq (G : KT1 R) : KC k 26 c4 σ h (Q1 G 4) = W3 (n4 k G) 0 1 4 σ h := (kseq (a := c13) (b := c5) rfl (fun σ h => n5_eq k σ h G)).trans (by kernel_rfl)
@[simp] def n2 (G : KT1 R) (v0 v1 v4 : GV) (h : Heap) := n4 k (fun x v4 h => kx x (n3 k G h) (G x v4 h)) v0 v1 v4 h
theorem n2_eq (G : KT1 R) : KC k 26 c2 σ h (Q1 G 4) = W3 (n2 k G) 0 1 4 σ h := (kseq (b := c3) rfl (fun σ h => n3_eq k σ h G)).trans (n4_eq k σ h (fun x v4 h => kx x (n3 k G h) (G x v4 h)))
noncomputable def c14 := cL c1
@[simp] def n1 (G : KT1 R) (v0 v1 v4 : GV) (h : Heap) := (klen v0).bind fun v7 => (klen v1).bind fun v9 => (kbin .neq v7 v9).bind fun v10 => kcond v10 (G .ret (.bool false) h) (n2 k G v0 v1 v4 h)
theorem n1_eq (G : KT1 R) : KC k 26 c1 σ h (Q1 G 4) = W3 (n1 k G) 0 1 4 σ h := (kseq (a := c14) (b := c2) rfl (fun σ h => n2_eq k σ h G)).trans (by kernel_rfl)
noncomputable def c15 := cL c0
@[simp] def n0 (G : KT1 R) (v0 v1 : GV) (h : Heap) := n1 k G v0 v1 (.bool false) h
theorem n0_eq (G : KT1 R) : KC k 26 c0 σ h (Q1 G 4) = W2 (n0 k G) 0 1 σ h := (kseq (a := c15) (b := c1) rfl (fun σ h => n1_eq k σ h G)).trans (by kernel_rfl)
def run {R : Type} (k : Nat) (a0 a1 : GV) (h : Heap) (fin : GV → Heap → Option R) : Option R := n0 k (fun x v4 h => kend x (fin v4 h)) a0 a1 h
theorem gives {k : Nat} {a0 a1 : GV} {v : GV} (e : run k a0 a1 [] finN = some v) : NN fn.laws_eqInt64S [a0, a1] = some v := nω_of (by kernel_rfl) (((kfun_eq (nt := 26) (c := c0) (show PP.funcs[fn.laws_eqInt64S]? = some Try.f75 by kernel_rfl) (by kernel_rfl) (by kernel_rfl) (fun x σ h => by cases x <;> kernel_rfl)).trans (n0_eq k _ [] _)).trans e)
end S.laws_eqInt64S
namespace S.laws_markInt64S
noncomputable def c0 := bodyOf Try.f76
noncomputable def c1 := cR c0
noncomputable def c2 := cR c1
@[simp] def n2 {R : Type} (k : Nat) (G : KT1 R) (v1 : GV) (h : Heap) := G .ret v1 h
theorem n2_eq (G : KT1 R) : KC k 19 c2 σ h (Q1 G 4) = n2 k G (σ 1) h := by kernel_rfl
noncomputable def c3 := cL c1
noncomputable def c4 := cR c3
noncomputable def c5 := cL c4
noncomputable def c6 := cL c5
noncomputable def c7 := cR c6
noncomputable def c8 := cR c7
@[simp] def n8 {R : Type} (k : Nat) (G : KT4 R) (v0 v1 v4 v5 : GV) (h : Heap) := (kbin .add v5 (.int .i64 1)).bind fun v11 => G .nrm v0 v1 v4 v11 h
theorem n8_eq (G : KT4 R) : KC k 19 c8 σ h (Q4 G 0 1 4 5) = W4 (n8 k G) 0 1 4 5 σ h := by kernel_rfl
noncomputable def c9 := cL c7
noncomputable def c10 := cL c9
@[simp] def n10 {R : Type} (k : Nat) (G : KT4 R) (v0 v1 v4 v5 : GV) (h : Heap) := (kia 1 v0 v5).bind fun v15 => (kstore 1 h v15 v1).bind fun h => (kbin .add v1 (.int .i64 1)).bind fun v17 => G .nrm v0 v17 v4 v5 h
theorem n10_eq (G : KT4 R) : KC k 19 c10 σ h (Q4 G 0 1 4 5) = W4 (n10 k G) 0 1 4 5 σ h := by kernel_rfl
@[simp] def n9 (G : KT4 R) (v0 v1 v4 v5 : GV) (h : Heap) := n10 k (fun x v0 v1 v4 v5 h => kb 1 x fun x => G x v0 v1 v4 v5 h) v0 v1 v4 v5 h
theorem n9_eq (G : KT4 R) : KC k 19 c9 σ h (Q4 G 0 1 4 5) = W4 (n9 k G) 0 1 4 5 σ h := (kblock_eq (a := c10) rfl).trans (n10_eq k σ h (fun x v0 v1 v4 v5 h => kb 1 x fun x => G x v0 v1 v4 v5 h))
@[simp] def n7 (G : KT4 R) (v0 v1 v4 v5 : GV) (h : Heap) := n9 k (fun x v0 v1 v4 v5 h => kx x (n8 k G v0 v1 v4 v5 h) (G x v0 v1 v4 v5 h)) v0 v1 v4 v5 h
theorem n7_eq (G : KT4 R) : KC k 19 c7 σ h (Q4 G 0 1 4 5) = W4 (n7 k G) 0 1 4 5 σ h := (kseq (b := c8) rfl (fun σ h => n8_eq k σ h G)).trans (n9_eq k σ h (fun x v0 v1 v4 v5 h => kx x (n8 k G v0 v1 v4 v5 h) (G x v0 v1 v4 v5 h)))
noncomputable def c11 := cL c6
@[simp] def n6 (G : KT4 R) (v0 v1 v4 v5 : GV) (h : Heap) := (klen v0).bind fun v8 => (kbin .lss v5 v8).bind fun v9 => kcond v9 (n7 k G v0 v1 v4 v5 h) (G (.ext 0) v0 v1 v4 v5 h)
theorem n6_eq (G : KT4 R) : KC k 19 c6 σ h (Q4 G 0 1 4 5) = W4 (n6 k G) 0 1 4 5 σ h := (kseq (a := c11) (b := c7) rfl (fun σ h => n7_eq k σ h G)).trans (by kernel_rfl)
def l5 {R : Type} (k : Nat) (G : KT2 R) : Nat → GV → GV → GV → GV → Heap → Option R
  | 0, _, _, _, _, _ => none
  | r + 1, v0, v1, v4, v5, h => n6 k (fun x v0 v1 v4 v5 h => kx x (l5 k G r v0 v1 v4 v5 h) (G x v1 v4 h)) v0 v1 v4 v5 h
theorem l5_eq {R : Type} (k : Nat) (G : KT2 R) : ∀ (r : Nat) (σ : GS) (h : Heap), kloop (fun σ h K => KC k 19 c6 σ h K) r σ h (Q2 G 1 4) = l5 k G r (σ 0) (σ 1) (σ 4) (σ 5) h
  | 0, _, _ => rfl
  | r + 1, σ, h => (kloop_eq (fun σ h => l5_eq k G r σ h)).trans (n6_eq k σ h (fun x v0 v1 v4 v5 h => kx x (l5 k G r v0 v1 v4 v5 h) (G x v1 v4 h)))
@[simp] def n5 (G : KT2 R) (v0 v1 v4 v5 : GV) (h : Heap) := l5 k G k v0 v1 v4 v5 h
theorem n5_eq (G : KT2 R) : KC k 19 c5 σ h (Q2 G 1 4) = W4 (n5 k G) 0 1 4 5 σ h := (kloopc_eq (a := c6) rfl).trans (l5_eq k G k σ h)
@[simp] def n4 (G : KT2 R) (v0 v1 v4 v5 : GV) (h : Heap) := n5 k (fun x v1 v4 h => kb 0 x fun x => G x v1 v4 h) v0 v1 v4 v5 h
theorem n4_eq (G : KT2 R) : KC k 19 c4 σ h (Q2 G 1 4) = W4 (n4 k G) 0 1 4 5 σ h := (kblock_eq (a := c5) rfl).trans (n5_eq k σ h (fun x v1 v4 h => kb 0 x fun x => G x v1 v4 h))
noncomputable def c12 := cL c3
@[simp] def n3 (G : KT2 R) (v0 v1 v4 : GV) (h : Heap) := n4 k G v0 v1 v4 (.int .i64 0) h
theorem n3_eq (G : KT2 R) : KC k 19 c3 σ h (Q2 G 1 4) = W3 (n3 k G) 0 1 4 σ h := (kseq (a := c12) (b := c4) rfl (fun σ h => n4_eq k σ h G)).trans (by kernel_rfl)
@[simp] def n1 (G : KT1 R) (v0 v1 v4 : GV) (h : Heap) := n3 k (fun x v1 v4 h => kx x (n2 k G v1 h) (G x v4 h)) v0 v1 v4 h
theorem n1_eq (G : KT1 R) : KC k 19 c1 σ h (Q1 G 4) = W3 (n1 k G) 0 1 4 σ h := (kseq (b := c2) rfl (fun σ h => n2_eq k σ h G)).trans (n3_eq k σ h (fun x v1 v4 h => kx x (n2 k G v1 h) (G x v4 h)))
noncomputable def c13 := cL c0
@[simp] def n0 (G : KT1 R) (v0 v1 : GV) (h : Heap) := n1 k G v0 v1 (.int .i64 0) h
theorem n0_eq (G : KT1 R) : KC k 19 c0 σ h (Q1 G 4) = W2 (n0 k G) 0 1 σ h := (kseq (a := c13) (b := c1) rfl (fun σ h => n1_eq k σ h G)).trans (by kernel_rfl)
def run {R : Type} (k : Nat) (a0 a1 : GV) (h : Heap) (fin : GV → Heap → Option R) : Option R := n0 k (fun x v4 h => kend x (fin v4 h)) a0 a1 h
theorem gives {k : Nat} {a0 a1 : GV} {h : Heap} {r : GV × Heap} (e : run k a0 a1 h finH = some r) : HH fn.laws_markInt64S [a0, a1] h = some r := kω_of (((kfun_eq (nt := 19) (c := c0) (show PP.funcs[fn.laws_markInt64S]? = some Try.f76 by kernel_rfl) (by kernel_rfl) (by kernel_rfl) (fun x σ h => by cases x <;> kernel_rfl)).trans (n0_eq k _ h _)).trans e)
end S.laws_markInt64S
namespace S.laws_szServerS
noncomputable def c0 := bodyOf Try.f94
noncomputable def c1 := cR c0
noncomputable def c2 := cR c1
noncomputable def c3 := cR c2
noncomputable def c4 := cR c3
@[simp] def n4 {R : Type} (k : Nat) (G : KT1 R) (v1 : GV) (h : Heap) := G .ret v1 h
theorem n4_eq (G : KT1 R) : KC k 27 c4 σ h (Q1 G 4) = n4 k G (σ 1) h := by kernel_rfl
noncomputable def c5 := cL c3
noncomputable def c6 := cR c5
noncomputable def c7 := cL c6
noncomputable def c8 := cL c7
noncomputable def c9 := cR c8
noncomputable def c10 := cR c9
@[simp] def n10 {R : Type} (k : Nat) (G : KT4 R) (v0 v1 v4 v5 : GV) (h : Heap) := (kbin .add v5 (.int .i64 1)).bind fun v17 => G .nrm v0 v1 v4 v17 h
theorem n10_eq (G : KT4 R) : KC k 27 c10 σ h (Q4 G 0 1 4 5) = W4 (n10 k G) 0 1 4 5 σ h := by kernel_rfl
noncomputable def c11 := cL c9
noncomputable def c12 := cL c11
@[simp] def n12 {R : Type} (k : Nat) (G : KT4 R) (v0 v1 v4 v5 : GV) (h : Heap) := (kia 2 v0 v5).bind fun v20 => (kloadA 2 h v20).bind fun v21 => (kN NN fn.laws_szServer [v21, v1] h).bind fun v23 => (kbin .lss v23 (.int .i64 0)).bind fun v25 => kcond v25 (G .ret v0 v23 (.int .i64 (-1)) v5 h) (G .nrm v0 v23 v4 v5 h)
theorem n12_eq (G : KT4 R) : KC k 27 c12 σ h (Q4 G 0 1 4 5) = W4 (n12 k G) 0 1 4 5 σ h := by kernel_rfl
@[simp] def n11 (G : KT4 R) (v0 v1 v4 v5 : GV) (h : Heap) := n12 k (fun x v0 v1 v4 v5 h => kb 1 x fun x => G x v0 v1 v4 v5 h) v0 v1 v4 v5 h
theorem n11_eq (G : KT4 R) : KC k 27 c11 σ h (Q4 G 0 1 4 5) = W4 (n11 k G) 0 1 4 5 σ h := (kblock_eq (a := c12) rfl).trans (n12_eq k σ h (fun x v0 v1 v4 v5 h => kb 1 x fun x => G x v0 v1 v4 v5 h))
@[simp] def n9 (G : KT4 R) (v0 v1 v4 v5 : GV) (h : Heap) := n11 k (fun x v0 v1 v4 v5 h => kx x (n10 k G v0 v1 v4 v5 h) (G x v0 v1 v4 v5 h)) v0 v1 v4 v5 h
theorem n9_eq (G : KT4 R) : KC k 27 c9 σ h (Q4 G 0 1 4 5) = W4 (n9 k G) 0 1 4 5 σ h := (kseq (b := c10) rfl (fun σ h => n10_eq k σ h G)).trans (n11_eq k σ h (fun x v0 v1 v4 v5 h => kx x (n10 k G v0 v1 v4 v5 h) (G x v0 v1 v4 v5 h)))
noncomputable def c13 := cL c8
@[simp] def n8 (G : KT4 R) (v0 v1 v4 v5 : GV) (h : Heap) := (klen v0).bind fun v14 => (kbin .lss v5 v14).bind fun v15 => kcond v15 (n9 k G v0 v1 v4 v5 h) (G (.ext 0) v0 v1 v4 v5 h)
theorem n8_eq (G : KT4 R) : KC k 27 c8 σ h (Q4 G 0 1 4 5) = W4 (n8 k G) 0 1 4 5 σ h := (kseq (a := c13) (b := c9) rfl (fun σ h => n9_eq k σ h G)).trans (by kernel_rfl)
def l7 {R : Type} (k : Nat) (G : KT2 R) : Nat → GV → GV → GV → GV → Heap → Option R
  | 0, _, _, _, _, _ => none
  | r + 1, v0, v1, v4, v5, h => n8 k (fun x v0 v1 v4 v5 h => kx x (l7 k G r v0 v1 v4 v5 h) (G x v1 v4 h)) v0 v1 v4 v5 h
theorem l7_eq {R : Type} (k : Nat) (G : KT2 R) : ∀ (r : Nat) (σ : GS) (h : Heap), kloop (fun σ h K => KC k 27 c8 σ h K) r σ h (Q2 G 1 4) = l7 k G r (σ 0) (σ 1) (σ 4) (σ 5) h
  | 0, _, _ => rfl
  | r + 1, σ, h => (kloop_eq (fun σ h => l7_eq k G r σ h)).trans (n8_eq k σ h (fun x v0 v1 v4 v5 h => kx x (l7 k G r v0 v1 v4 v5 h) (G x v1 v4 h)))
@[simp] def n7 (G : KT2 R) (v0 v1 v4 v5 : GV) (h : Heap) := l7 k G k v0 v1 v4 v5 h
theorem n7_eq (G : KT2 R) : KC k 27 c7 σ h (Q2 G 1 4) = W4 (n7 k G) 0 1 4 5 σ h := (kloopc_eq (a := c8) rfl).trans (l7_eq k G k σ h)
@[simp] def n6 (G : KT2 R) (v0 v1 v4 v5 : GV) (h : Heap) := n7 k (fun x v1 v4 h => kb 0 x fun x => G x v1 v4 h) v0 v1 v4 v5 h
theorem n6_eq (G : KT2 R) : KC k 27 c6 σ h (Q2 G 1 4) = W4 (n6 k G) 0 1 4 5 σ h := (kblock_eq (a := c7) rfl).trans (n7_eq k σ h (fun x v1 v4 h => kb 0 x fun x => G x v1 v4 h))
noncomputable def c14 := cL c5
@[simp] def n5 (G : KT2 R) (v0 v1 v4 : GV) (h : Heap) := n6 k G v0 v1 v4 (.int .i64 0) h
theorem n5_eq (G : KT2 R) : KC k 27 c5 σ h (Q2 G 1 4) = W3 (n5 k G) 0 1 4 σ h := (kseq (a := c14) (b := c6) rfl (fun σ h => n6_eq k σ h G)).trans (by kernel_rfl)
@[simp] def n3 (G : KT1 R) (v0 v1 v4 : GV) (h : Heap) := n5 k (fun x v1 v4 h => kx x (n4 k G v1 h) (G x v4 h)) v0 v1 v4 h
theorem n3_eq (G : KT1 R) : KC k 27 c3 σ h (Q1 G 4) = W3 (n3 k G) 0 1 4 σ h := (kseq (b := c4) rfl (fun σ h => n4_eq k σ h G)).trans (n5_eq k σ h (fun x v1 v4 h => kx x (n4 k G v1 h) (G x v4 h)))
noncomputable def c15 := cL c2
@[simp] def n2 (G : KT1 R) (v0 v1 v4 : GV) (h : Heap) := (kbin .lss v1 (.int .i64 0)).bind fun v11 => kcond v11 (G .ret (.int .i64 (-1)) h) (n3 k G v0 v1 v4 h)
theorem n2_eq (G : KT1 R) : KC k 27 c2 σ h (Q1 G 4) = W3 (n2 k G) 0 1 4 σ h := (kseq (a := c15) (b := c3) rfl (fun σ h => n3_eq k σ h G)).trans (by kernel_rfl)
noncomputable def c16 := cL c1
@[simp] def n1 (G : KT1 R) (v0 v1 v4 : GV) (h : Heap) := (klen v0).bind fun v8 => (kbin .sub v1 v8).bind fun v9 => n2 k G v0 v9 v4 h
theorem n1_eq (G : KT1 R) : KC k 27 c1 σ h (Q1 G 4) = W3 (n1 k G) 0 1 4 σ h := (kseq (a := c16) (b := c2) rfl (fun σ h => n2_eq k σ h G)).trans (by kernel_rfl)
noncomputable def c17 := cL c0
@[simp] def n0 (G : KT1 R) (v0 v1 : GV) (h : Heap) := n1 k G v0 v1 (.int .i64 0) h
theorem n0_eq (G : KT1 R) : KC k 27 c0 σ h (Q1 G 4) = W2 (n0 k G) 0 1 σ h := (kseq (a := c17) (b := c1) rfl (fun σ h => n1_eq k σ h G)).trans (by kernel_rfl)
def run {R : Type} (k : Nat) (a0 a1 : GV) (h : Heap) (fin : GV → Heap → Option R) : Option R := n0 k (fun x v4 h => kend x (fin v4 h)) a0 a1 h
theorem gives {k : Nat} {a0 a1 : GV} {v : GV} (e : run k a0 a1 [] finN = some v) : NN fn.laws_szServerS [a0, a1] = some v := nω_of (by kernel_rfl) (((kfun_eq (nt := 27) (c := c0) (show PP.funcs[fn.laws_szServerS]? = some Try.f94 by kernel_rfl) (by kernel_rfl) (by kernel_rfl) (fun x σ h => by cases x <;> kernel_rfl)).trans (n0_eq k _ [] _)).trans e)
end S.laws_szServerS
namespace S.laws_szStringSS
noncomputable def c0 := bodyOf Try.f95
noncomputable def c1 := cR c0
noncomputable def c2 := cR c1
noncomputable def c3 := cR c2
noncomputable def c4 := cR c3
@[simp] def n4 {R : Type} (k : Nat) (G : KT1 R) (v1 : GV) (h : Heap) := G .ret v1 h
theorem n4_eq (G : KT1 R) : KC k 27 c4 σ h (Q1 G 4) = n4 k G (σ 1) h := by kernel_rfl
noncomputable def c5 := cL c3
noncomputable def c6 := cR c5
noncomputable def c7 := cL c6
noncomputable def c8 := cL c7
noncomputable def c9 := cR c8
noncomputable def c10 := cR c9
@[simp] def n10 {R : Type} (k : Nat) (G : KT4 R) (v0 v1 v4 v5 : GV) (h : Heap) := (kbin .add v5 (.int .i64 1)).bind fun v17 => G .nrm v0 v1 v4 v17 h
theorem n10_eq (G : KT4 R) : KC k 27 c10 σ h (Q4 G 0 1 4 5) = W4 (n10 k G) 0 1 4 5 σ h := by kernel_rfl
noncomputable def c11 := cL c9
noncomputable def c12 := cL c11
@[simp] def n12 {R : Type} (k : Nat) (G : KT4 R) (v0 v1 v4 v5 : GV) (h : Heap) := (kia 1 v0 v5).bind fun v20 => (kload1 h v20).bind fun v21 => (kN NN fn.laws_szStringS [v21, v1] h).bind fun v23 => (kbin .lss v23 (.int .i64 0)).bind fun v25 => kcond v25 (G .ret v0 v23 (.int .i64 (-1)) v5 h) (G .nrm v0 v23 v4 v5 h)
theorem n12_eq (G : KT4 R) : KC k 27 c12 σ h (Q4 G 0 1 4 5) = W4 (n12 k G) 0 1 4 5 σ h := by kernel_rfl
@[simp] def n11 (G : KT4 R) (v0 v1 v4 v5 : GV) (h : Heap) := n12 k (fun x v0 v1 v4 v5 h => kb 1 x fun x => G x v0 v1 v4 v5 h) v0 v1 v4 v5 h
theorem n11_eq (G : KT4 R) : KC k 27 c11 σ h (Q4 G 0 1 4 5) = W4 (n11 k G) 0 1 4 5 σ h := (kblock_eq (a := c12) rfl).trans (n12_eq k σ h (fun x v0 v1 v4 v5 h => kb 1 x fun x => G x v0 v1 v4 v5 h))
@[simp] def n9 (G : KT4 R) (v0 v1 v4 v5 : GV) (h : Heap) := n11 k (fun x v0 v1 v4 v5 h => kx x (n10 k G v0 v1 v4 v5 h) (G x v0 v1 v4 v5 h)) v0 v1 v4 v5 h
theorem n9_eq (G : KT4 R) : KC k 27 c9 σ h (Q4 G 0 1 4 5) = W4 (n9 k G) 0 1 4 5 σ h := (kseq (b := c10) rfl (fun σ h => n10_eq k σ h G)).trans (n11_eq k σ h (fun x v0 v1 v4 v5 h => kx x (n10 k G v0 v1 v4 v5 h) (G x v0 v1 v4 v5 h)))
noncomputable def c13 := cL c8
@[simp] def n8 (G : KT4 R) (v0 v1 v4 v5 : GV) (h : Heap) := (klen v0).bind fun v14 => (kbin .lss v5 v14).bind fun v15 => kcond v15 (n9 k G v0 v1 v4 v5 h) (G (.ext 0) v0 v1 v4 v5 h)
theorem n8_eq (G : KT4 R) : KC k 27 c8 σ h (Q4 G 0 1 4 5) = W4 (n8 k G) 0 1 4 5 σ h := (kseq (a := c13) (b := c9) rfl (fun σ h => n9_eq k σ h G)).trans (by kernel_rfl)
def l7 {R : Type} (k : Nat) (G : KT2 R) : Nat → GV → GV → GV → GV → Heap → Option R
  | 0, _, _, _, _, _ => none
  | r + 1, v0, v1, v4, v5, h => n8 k (fun x v0 v1 v4 v5 h => kx x (l7 k G r v0 v1 v4 v5 h) (G x v1 v4 h)) v0 v1 v4 v5 h
theorem l7_eq {R : Type} (k : Nat) (G : KT2 R) : ∀ (r : Nat) (σ : GS) (h : Heap), kloop (fun σ h K => KC k 27 c8 σ h K) r σ h (Q2 G 1 4) = l7 k G r (σ 0) (σ 1) (σ 4) (σ 5) h
  | 0, _, _ => rfl
  | r + 1, σ, h => (kloop_eq (fun σ h => l7_eq k G r σ h)).trans (n8_eq k σ h (fun x v0 v1 v4 v5 h => kx x (l7 k G r v0 v1 v4 v5 h) (G x v1 v4 h)))
@[simp] def n7 (G : KT2 R) (v0 v1 v4 v5 : GV) (h : Heap) := l7 k G k v0 v1 v4 v5 h
theorem n7_eq (G : KT2 R) : KC k 27 c7 σ h (Q2 G 1 4) = W4 (n7 k G) 0 1 4 5 σ h := (kloopc_eq (a := c8) rfl).trans (l7_eq k G k σ h)
@[simp] def n6 (G : KT2 R) (v0 v1 v4 v5 : GV) (h : Heap) := n7 k (fun x v1 v4 h => kb 0 x fun x => G x v1 v4 h) v0 v1 v4 v5 h
theorem n6_eq (G : KT2 R) : KC k 27 c6 σ h (Q2 G 1 4) = W4 (n6 k G) 0 1 4 5 σ h := (kblock_eq (a := c7) rfl).trans (n7_eq k σ h (fun x v1 v4 h => kb 0 x fun x => G x v1 v4 h))
noncomputable def c14 := cL c5
@[simp] def n5 (G : KT2 R) (v0 v1 v4 : GV) (h : Heap) := n6 k G v0 v1 v4 (.int .i64 0) h
theorem n5_eq (G : KT2 R) : KC k 27 c5 σ h (Q2 G 1 4) = W3 (n5 k G) 0 1 4 σ h := (kseq (a := c14) (b := c6) rfl (fun σ h => n6_eq k σ h G)).trans (by kernel_rfl)
@[simp] def n3 (G : KT1 R) (v0 v1 v4 : GV) (h : Heap) := n5 k (fun x v1 v4 h => kx x (n4 k G v1 h) (G x v4 h)) v0 v1 v4 h
theorem n3_eq (G : KT1 R) : KC k 27 c3 σ h (Q1 G 4) = W3 (n3 k G) 0 1 4 σ h := (kseq (b := c4) rfl (fun σ h => n4_eq k σ h G)).trans (n5_eq k σ h (fun x v1 v4 h => kx x (n4 k G v1 h) (G x v4 h)))
noncomputable def c15 := cL c2
@[simp] def n2 (G : KT1 R) (v0 v1 v4 : GV) (h : Heap) := (kbin .lss v1 (.int .i64 0)).bind fun v11 => kcond v11 (G .ret (.int .i64 (-1)) h) (n3 k G v0 v1 v4 h)
theorem n2_eq (G : KT1 R) : KC k 27 c2 σ h (Q1 G 4) = W3 (n2 k G) 0 1 4 σ h := (kseq (a := c15) (b := c3) rfl (fun σ h => n3_eq k σ h G)).trans (by kernel_rfl)
noncomputable def c16 := cL c1
@[simp] def n1 (G : KT1 R) (v0 v1 v4 : GV) (h : Heap) := (klen v0).bind fun v8 => (kbin .sub v1 v8).bind fun v9 => n2 k G v0 v9 v4 h
theorem n1_eq (G : KT1 R) : KC k 27 c1 σ h (Q1 G 4) = W3 (n1 k G) 0 1 4 σ h := (kseq (a := c16) (b := c2) rfl (fun σ h => n2_eq k σ h G)).trans (by kernel_rfl)
noncomputable def c17 := cL c0
@[simp] def n0 (G : KT1 R) (v0 v1 : GV) (h : Heap) := n1 k G v0 v1 (.int .i64 0) h
theorem n0_eq (G : KT1 R) : KC k 27 c0 σ h (Q1 G 4) = W2 (n0 k G) 0 1 σ h := (kseq (a := c17) (b := c1) rfl (fun σ h => n1_eq k σ h G)).trans (by kernel_rfl)
def run {R : Type} (k : Nat) (a0 a1 : GV) (h : Heap) (fin : GV → Heap → Option R) : Option R := n0 k (fun x v4 h => kend x (fin v4 h)) a0 a1 h
theorem gives {k : Nat} {a0 a1 : GV} {v : GV} (e : run k a0 a1 [] finN = some v) : NN fn.laws_szStringSS [a0, a1] = some v := nω_of (by kernel_rfl) (((kfun_eq (nt := 27) (c := c0) (show PP.funcs[fn.laws_szStringSS]? = some Try.f95 by kernel_rfl) (by kernel_rfl) (by kernel_rfl) (fun x σ h => by cases x <;> kernel_rfl)).trans (n0_eq k _ [] _)).trans e)
end S.laws_szStringSS
namespace S.laws_szInt64SS
noncomputable def c0 := bodyOf Try.f96
noncomputable def c1 := cR c0
noncomputable def c2 := cR c1
noncomputable def c3 := cR c2
noncomputable def c4 := cR c3
@[simp] def n4 {R : Type} (k : Nat) (G : KT1 R) (v1 : GV) (h : Heap) := G .ret v1 h
theorem n4_eq (G : KT1 R) : KC k 27 c4 σ h (Q1 G 4) = n4 k G (σ 1) h := by kernel_rfl
noncomputable def c5 := cL c3
noncomputable def c6 := cR c5
noncomputable def c7 := cL c6
noncomputable def c8 := cL c7
noncomputable def c9 := cR c8
noncomputable def c10 := cR c9
@[simp] def n10 {R : Type} (k : Nat) (G : KT4 R) (v0 v1 v4 v5 : GV) (h : Heap) := (kbin .add v5 (.int .i64 1)).bind fun v17 => G .nrm v0 v1 v4 v17 h
theorem n10_eq (G : KT4 R) : KC k 27 c10 σ h (Q4 G 0 1 4 5) = W4 (n10 k G) 0 1 4 5 σ h := by kernel_rfl
noncomputable def c11 := cL c9
noncomputable def c12 := cL c11
@[simp] def n12 {R : Type} (k : Nat) (G : KT4 R) (v0 v1 v4 v5 : GV) (h : Heap) := (kia 1 v0 v5).bind fun v20 => (kload1 h v20).bind fun v21 => (kN NN fn.laws_szInt64S [v21, v1] h).bind fun v23 => (kbin .lss v23 (.int .i64 0)).bind fun v25 => kcond v25 (G .ret v0 v23 (.int .i64 (-1)) v5 h) (G .nrm v0 v23 v4 v5 h)
theorem n12_eq (G : KT4 R) : KC k 27 c12 σ h (Q4 G 0 1 4 5) = W4 (n12 k G) 0 1 4 5 σ h := by kernel_rfl
@[simp] def n11 (G : KT4 R) (v0 v1 v4 v5 : GV) (h : Heap) := n12 k (fun x v0 v1 v4 v5 h => kb 1 x fun x => G x v0 v1 v4 v5 h) v0 v1 v4 v5 h
theorem n11_eq (G : KT4 R) : KC k 27 c11 σ h (Q4 G 0 1 4 5) = W4 (n11 k G) 0 1 4 5 σ h := (kblock_eq (a := c12) rfl).trans (n12_eq k σ h (fun x v0 v1 v4 v5 h => kb 1 x fun x => G x v0 v1 v4 v5 h))
@[simp] def n9 (G : KT4 R) (v0 v1 v4 v5 : GV) (h : Heap) := n11 k (fun x v0 v1 v4 v5 h => kx x (n10 k G v0 v1 v4 v5 h) (G x v0 v1 v4 v5 h)) v0 v1 v4 v5 h
theorem n9_eq (G : KT4 R) : KC k 27 c9 σ h (Q4 G 0 1 4 5) = W4 (n9 k G) 0 1 4 5 σ h := (kseq (b := c10) rfl (fun σ h => n10_eq k σ h G)).trans (n11_eq k σ h (fun x v0 v1 v4 v5 h => kx x (n10 k G v0 v1 v4 v5 h) (G x v0 v1 v4 v5 h)))
noncomputable def c13 := cL c8
@[simp] def n8 (G : KT4 R) (v0 v1 v4 v5 : GV) (h : Heap) := (klen v0).bind fun v14 => (kbin .lss v5 v14).bind fun v15 => kcond v15 (n9 k G v0 v1 v4 v5 h) (G (.ext 0) v0 v1 v4 v5 h)
theorem n8_eq (G : KT4 R) : KC k 27 c8 σ h (Q4 G 0 1 4 5) = W4 (n8 k G) 0 1 4 5 σ h := (kseq (a := c13) (b := c9) rfl (fun σ h => n9_eq k σ h G)).trans (by kernel_rfl)
def l7 {R : Type} (k : Nat) (G : KT2 R) : Nat → GV → GV → GV → GV → Heap → Option R
  | 0, _, _, _, _, _ => none
  | r + 1, v0, v1, v4, v5, h => n8 k (fun x v0 v1 v4 v5 h => kx x (l7 k G r v0 v1 v4 v5 h) (G x v1 v4 h)) v0 v1 v4 v5 h
theorem l7_eq {R : Type} (k : Nat) (G : KT2 R) : ∀ (r : Nat) (σ : GS) (h : Heap), kloop (fun σ h K => KC k 27 c8 σ h K) r σ h (Q2 G 1 4) = l7 k G r (σ 0) (σ 1) (σ 4) (σ 5) h
  | 0, _, _ => rfl
  | r + 1, σ, h => (kloop_eq (fun σ h => l7_eq k G r σ h)).trans (n8_eq k σ h (fun x v0 v1 v4 v5 h => kx x (l7 k G r v0 v1 v4 v5 h) (G x v1 v4 h)))
@[simp] def n7 (G : KT2 R) (v0 v1 v4 v5 : GV) (h : Heap) := l7 k G k v0 v1 v4 v5 h
theorem n7_eq (G : KT2 R) : KC k 27 c7 σ h (Q2 G 1 4) = W4 (n7 k G) 0 1 4 5 σ h := (kloopc_eq (a := c8) rfl).trans (l7_eq k G k σ h)
@[simp] def n6 (G : KT2 R) (v0 v1 v4 v5 : GV) (h : Heap) := n7 k (fun x v1 v4 h => kb 0 x fun x => G x v1 v4 h) v0 v1 v4 v5 h
theorem n6_eq (G : KT2 R) : KC k 27 c6 σ h (Q2 G 1 4) = W4 (n6 k G) 0 1 4 5 σ h := (kblock_eq (a := c7) rfl).trans (n7_eq k σ h (fun x v1 v4 h => kb 0 x fun x => G x v1 v4 h))
noncomputable def c14 := cL c5
@[simp] def n5 (G : KT2 R) (v0 v1 v4 : GV) (h : Heap) := n6 k G v0 v1 v4 (.int .i64 0) h
theorem n5_eq (G : KT2 R) : KC k 27 c5 σ h (Q2 G 1 4) = W3 (n5 k G) 0 1 4 σ h := (kseq (a := c14) (b := c6) rfl (fun σ h => n6_eq k σ h G)).trans (by kernel_rfl)
@[simp] def n3 (G : KT1 R) (v0 v1 v4 : GV) (h : Heap) := n5 k (fun x v1 v4 h => kx x (n4 k G v1 h) (G x v4 h)) v0 v1 v4 h
theorem n3_eq (G : KT1 R) : KC k 27 c3 σ h (Q1 G 4) = W3 (n3 k G) 0 1 4 σ h := (kseq (b := c4) rfl (fun σ h => n4_eq k σ h G)).trans (n5_eq k σ h (fun x v1 v4 h => kx x (n4 k G v1 h) (G x v4 h)))
noncomputable def c15 := cL c2
@[simp] def n2 (G : KT1 R) (v0 v1 v4 : GV) (h : Heap) := (kbin .lss v1 (.int .i64 0)).bind fun v11 => kcond v11 (G .ret (.int .i64 (-1)) h) (n3 k G v0 v1 v4 h)
theorem n2_eq (G : KT1 R) : KC k 27 c2 σ h (Q1 G 4) = W3 (n2 k G) 0 1 4 σ h := (kseq (a := c15) (b := c3) rfl (fun σ h => n3_eq k σ h G)).trans (by kernel_rfl)
noncomputable def c16 := cL c1
@[simp] def n1 (G : KT1 R) (v0 v1 v4 : GV) (h : Heap) := (klen v0).bind fun v8 => (kbin .sub v1 v8).bind fun v9 => n2 k G v0 v9 v4 h
theorem n1_eq (G : KT1 R) : KC k 27 c1 σ h (Q1 G 4) = W3 (n1 k G) 0 1 4 σ h := (kseq (a := c16) (b := c2) rfl (fun σ h => n2_eq k σ h G)).trans (by kernel_rfl)
noncomputable def c17 := cL c0
@[simp] def n0 (G : KT1 R) (v0 v1 : GV) (h : Heap) := n1 k G v0 v1 (.int .i64 0) h
theorem n0_eq (G : KT1 R) : KC k 27 c0 σ h (Q1 G 4) = W2 (n0 k G) 0 1 σ h := (kseq (a := c17) (b := c1) rfl (fun σ h => n1_eq k σ h G)).trans (by kernel_rfl)
def run {R : Type} (k : Nat) (a0 a1 : GV) (h : Heap) (fin : GV → Heap → Option R) : Option R := n0 k (fun x v4 h => kend x (fin v4 h)) a0 a1 h
theorem gives {k : Nat} {a0 a1 : GV} {v : GV} (e : run k a0 a1 [] finN = some v) : NN fn.laws_szInt64SS [a0, a1] = some v := nω_of (by kernel_rfl) (((kfun_eq (nt := 27) (c := c0) (show PP.funcs[fn.laws_szInt64SS]? = some Try.f96 by kernel_rfl) (by kernel_rfl) (by kernel_rfl) (fun x σ h => by cases x <;> kernel_rfl)).trans (n0_eq k _ [] _)).trans e)
end S.laws_szInt64SS
namespace S.laws_toServerS
noncomputable def c0 := bodyOf Try.f99
noncomputable def c1 := cR c0
noncomputable def c2 := cR c1
noncomputable def c3 := cR c2
@[simp] def n3 {R : Type} (k : Nat) (G : KT1 R) (v3 : GV) (h : Heap) := G .ret v3 h
theorem n3_eq (G : KT1 R) : KC k 23 c3 σ h (Q1 G 2) = n3 k G (σ 3) h := by kernel_rfl
noncomputable def c4 := cL c2
noncomputable def c5 := cR c4
noncomputable def c6 := cL c5
noncomputable def c7 := cL c6
noncomputable def c8 := cR c7
noncomputable def c9 := cR c8
@[simp] def n9 {R : Type} (k : Nat) (G : KT4 R) (v0 v2 v3 v4 : GV) (h : Heap) := (kbin .add v4 (.int .i64 1)).bind fun v13 => G .nrm v0 v2 v3 v13 h
theorem n9_eq (G : KT4 R) : KC k 23 c9 σ h (Q4 G 0 2 3 4) = W4 (n9 k G) 0 2 3 4 σ h := by kernel_rfl
noncomputable def c10 := cL c8
noncomputable def c11 := cL c10
@[simp] def n11 {R : Type} (k : Nat) (G : KT4 R) (v0 v2 v3 v4 : GV) (h : Heap) := (kia 2 v0 v4).bind fun v18 => (kloadA 2 h v18).bind fun v19 => (kF false HH fn.laws_toServer [v19] h).bind fun r => kr r fun v20 h => (kia 2 v3 v4).bind fun v21 => (kstore 2 h v21 v20).bind fun h => G .nrm v0 v2 v3 v4 h
theorem n11_eq (G : KT4 R) : KC k 23 c11 σ h (Q4 G 0 2 3 4) = W4 (n11 k G) 0 2 3 4 σ h := by kernel_rfl
@[simp] def n10 (G : KT4 R) (v0 v2 v3 v4 : GV) (h : Heap) := n11 k (fun x v0 v2 v3 v4 h => kb 1 x fun x => G x v0 v2 v3 v4 h) v0 v2 v3 v4 h
theorem n10_eq (G : KT4 R) : KC k 23 c10 σ h (Q4 G 0 2 3 4) = W4 (n10 k G) 0 2 3 4 σ h := (kblock_eq (a := c11) rfl).trans (n11_eq k σ h (fun x v0 v2 v3 v4 h => kb 1 x fun x => G x v0 v2 v3 v4 h))
@[simp] def n8 (G : KT4 R) (v0 v2 v3 v4 : GV) (h : Heap) := n10 k (fun x v0 v2 v3 v4 h => kx x (n9 k G v0 v2 v3 v4 h) (G x v0 v2 v3 v4 h)) v0 v2 v3 v4 h
theorem n8_eq (G : KT4 R) : KC k 23 c8 σ h (Q4 G 0 2 3 4) = W4 (n8 k G) 0 2 3 4 σ h := (kseq (b := c9) rfl (fun σ h => n9_eq k σ h G)).trans (n10_eq k σ h (fun x v0 v2 v3 v4 h => kx x (n9 k G v0 v2 v3 v4 h) (G x v0 v2 v3 v4 h)))
noncomputable def c12 := cL c7
@[simp] def n7 (G : KT4 R) (v0 v2 v3 v4 : GV) (h : Heap) := (klen v0).bind fun v10 => (kbin .lss v4 v10).bind fun v11 => kcond v11 (n8 k G v0 v2 v3 v4 h) (G (.ext 0) v0 v2 v3 v4 h)
theorem n7_eq (G : KT4 R) : KC k 23 c7 σ h (Q4 G 0 2 3 4) = W4 (n7 k G) 0 2 3 4 σ h := (kseq (a := c12) (b := c8) rfl (fun σ h => n8_eq k σ h G)).trans (by kernel_rfl)
def l6 {R : Type} (k : Nat) (G : KT2 R) : Nat → GV → GV → GV → GV → Heap → Option R
  | 0, _, _, _, _, _ => none
  | r + 1, v0, v2, v3, v4, h => n7 k (fun x v0 v2 v3 v4 h => kx x (l6 k G r v0 v2 v3 v4 h) (G x v2 v3 h)) v0 v2 v3 v4 h
theorem l6_eq {R : Type} (k : Nat) (G : KT2 R) : ∀ (r : Nat) (σ : GS) (h : Heap), kloop (fun σ h K => KC k 23 c7 σ h K) r σ h (Q2 G 2 3) = l6 k G r (σ 0) (σ 2) (σ 3) (σ 4) h
  | 0, _, _ => rfl
  | r + 1, σ, h => (kloop_eq (fun σ h => l6_eq k G r σ h)).trans (n7_eq k σ h (fun x v0 v2 v3 v4 h => kx x (l6 k G r v0 v2 v3 v4 h) (G x v2 v3 h)))
@[simp] def n6 (G : KT2 R) (v0 v2 v3 v4 : GV) (h : Heap) := l6 k G k v0 v2 v3 v4 h
theorem n6_eq (G : KT2 R) : KC k 23 c6 σ h (Q2 G 2 3) = W4 (n6 k G) 0 2 3 4 σ h := (kloopc_eq (a := c7) rfl).trans (l6_eq k G k σ h)
@[simp] def n5 (G : KT2 R) (v0 v2 v3 v4 : GV) (h : Heap) := n6 k (fun x v2 v3 h => kb 0 x fun x => G x v2 v3 h) v0 v2 v3 v4 h
theorem n5_eq (G : KT2 R) : KC k 23 c5 σ h (Q2 G 2 3) = W4 (n5 k G) 0 2 3 4 σ h := (kblock_eq (a := c6) rfl).trans (n6_eq k σ h (fun x v2 v3 h => kb 0 x fun x => G x v2 v3 h))
noncomputable def c13 := cL c4
@[simp] def n4 (G : KT2 R) (v0 v2 v3 : GV) (h : Heap) := n5 k G v0 v2 v3 (.int .i64 0) h
theorem n4_eq (G : KT2 R) : KC k 23 c4 σ h (Q2 G 2 3) = W3 (n4 k G) 0 2 3 σ h := (kseq (a := c13) (b := c5) rfl (fun σ h => n5_eq k σ h G)).trans (by kernel_rfl)
@[simp] def n2 (G : KT1 R) (v0 v2 v3 : GV) (h : Heap) := n4 k (fun x v2 v3 h => kx x (n3 k G v3 h) (G x v2 h)) v0 v2 v3 h
theorem n2_eq (G : KT1 R) : KC k 23 c2 σ h (Q1 G 2) = W3 (n2 k G) 0 2 3 σ h := (kseq (b := c3) rfl (fun σ h => n3_eq k σ h G)).trans (n4_eq k σ h (fun x v2 v3 h => kx x (n3 k G v3 h) (G x v2 h)))
noncomputable def c14 := cL c1
@[simp] def n1 (G : KT1 R) (v0 v2 : GV) (h : Heap) := (klen v0).bind fun v6 => (kmake [.nils, (.int .i64 0)] 2 32 v6 v6 h).bind fun r => kr r fun v7 h => n2 k G v0 v2 v7 h
theorem n1_eq (G : KT1 R) : KC k 23 c1 σ h (Q1 G 2) = W2 (n1 k G) 0 2 σ h := (kseq (a := c14) (b := c2) rfl (fun σ h => n2_eq k σ h G)).trans (by kernel_rfl)
noncomputable def c15 := cL c0
@[simp] def n0 (G : KT1 R) (v0 : GV) (h : Heap) := n1 k G v0 .nils h
theorem n0_eq (G : KT1 R) : KC k 23 c0 σ h (Q1 G 2) = n0 k G (σ 0) h := (kseq (a := c15) (b := c1) rfl (fun σ h => n1_eq k σ h G)).trans (by kernel_rfl)
def run {R : Type} (k : Nat) (a0 : GV) (h : Heap) (fin : GV → Heap → Option R) : Option R := n0 k (fun x v2 h => kend x (fin v2 h)) a0 h
theorem gives {k : Nat} {a0 : GV} {b : Nat} {q : GV × List (List GV)} (e : run k a0 [] (finO b) = some q) : OO fn.laws_toServerS [a0] b = some q := oω_of (((kfun_eq (nt := 23) (c := c0) (show PP.funcs[fn.laws_toServerS]? = some Try.f99 by kernel_rfl) (by kernel_rfl) (by kernel_rfl) (fun x σ h => by cases x <;> kernel_rfl)).trans (n0_eq k _ [] _)).trans e)
end S.laws_toServerS
namespace S.laws_toStringSS
noncomputable def c0 := bodyOf Try.f100
noncomputable def c1 := cR c0
noncomputable def c2 := cR c1
noncomputable def c3 := cR c2
@[simp] def n3 {R : Type} (k : Nat) (G : KT1 R) (v3 : GV) (h : Heap) := G .ret v3 h
theorem n3_eq (G : KT1 R) : KC k 23 c3 σ h (Q1 G 2) = n3 k G (σ 3) h := by kernel_rfl
noncomputable def c4 := cL c2
noncomputable def c5 := cR c4
noncomputable def c6 := cL c5
noncomputable def c7 := cL c6
noncomputable def c8 := cR c7
noncomputable def c9 := cR c8
@[simp] def n9 {R : Type} (k : Nat) (G : KT4 R) (v0 v2 v3 v4 : GV) (h : Heap) := (kbin .add v4 (.int .i64 1)).bind fun v13 => G .nrm v0 v2 v3 v13 h
theorem n9_eq (G : KT4 R) : KC k 23 c9 σ h (Q4 G 0 2 3 4) = W4 (n9 k G) 0 2 3 4 σ h := by kernel_rfl
noncomputable def c10 := cL c8
noncomputable def c11 := cL c10
@[simp] def n11 {R : Type} (k : Nat) (G : KT4 R) (v0 v2 v3 v4 : GV) (h : Heap) := (kia 1 v0 v4).bind fun v18 => (kload1 h v18).bind fun v19 => (kF false HH fn.laws_toStringS [v19] h).bind fun r => kr r fun v20 h => (kia 1 v3 v4).bind fun v21 => (kstore 1 h v21 v20).bind fun h => G .nrm v0 v2 v3 v4 h
theorem n11_eq (G : KT4 R) : KC k 23 c11 σ h (Q4 G 0 2 3 4) = W4 (n11 k G) 0 2 3 4 σ h := by kernel_rfl
@[simp] def n10 (G : KT4 R) (v0 v2 v3 v4 : GV) (h : Heap) := n11 k (fun x v0 v2 v3 v4 h => kb 1 x fun x => G x v0 v2 v3 v4 h) v0 v2 v3 v4 h
theorem n10_eq (G : KT4 R) : KC k 23 c10 σ h (Q4 G 0 2 3 4) = W4 (n10 k G) 0 2 3 4 σ h := (kblock_eq (a := c11) rfl).trans (n11_eq k σ h (fun x v0 v2 v3 v4 h => kb 1 x fun x => G x v0 v2 v3 v4 h))
@[simp] def n8 (G : KT4 R) (v0 v2 v3 v4 : GV) (h : Heap) := n10 k (fun x v0 v2 v3 v4 h => kx x (n9 k G v0 v2 v3 v4 h) (G x v0 v2 v3 v4 h)) v0 v2 v3 v4 h
theorem n8_eq (G : KT4 R) : KC k 23 c8 σ h (Q4 G 0 2 3 4) = W4 (n8 k G) 0 2 3 4 σ h := (kseq (b := c9) rfl (fun σ h => n9_eq k σ h G)).trans (n10_eq k σ h (fun x v0 v2 v3 v4 h => kx x (n9 k G v0 v2 v3 v4 h) (G x v0 v2 v3 v4 h)))
noncomputable def c12 := cL c7
@[simp] def n7 (G : KT4 R) (v0 v2 v3 v4 : GV) (h : Heap) := (klen v0).bind fun v10 => (kbin .lss v4 v10).bind fun v11 => kcond v11 (n8 k G v0 v2 v3 v4 h) (G (.ext 0) v0 v2 v3 v4 h)
theorem n7_eq (G : KT4 R) : KC k 23 c7 σ h (Q4 G 0 2 3 4) = W4 (n7 k G) 0 2 3 4 σ h := (kseq (a := c12) (b := c8) rfl (fun σ h => n8_eq k σ h G)).trans (by kernel_rfl)
def l6 {R : Type} (k : Nat) (G : KT2 R) : Nat → GV → GV → GV → GV → Heap → Option R
  | 0, _, _, _, _, _ => none
  | r + 1, v0, v2, v3, v4, h => n7 k (fun x v0 v2 v3 v4 h => kx x (l6 k G r v0 v2 v3 v4 h) (G x v2 v3 h)) v0 v2 v3 v4 h
theorem l6_eq {R : Type} (k : Nat) (G : KT2 R) : ∀ (r : Nat) (σ : GS) (h : Heap), kloop (fun σ h K => KC k 23 c7 σ h K) r σ h (Q2 G 2 3) = l6 k G r (σ 0) (σ 2) (σ 3) (σ 4) h
  | 0, _, _ => rfl
  | r + 1, σ, h => (kloop_eq (fun σ h => l6_eq k G r σ h)).trans (n7_eq k σ h (fun x v0 v2 v3 v4 h => kx x (l6 k G r v0 v2 v3 v4 h) (G x v2 v3 h)))
@[simp] def n6 (G : KT2 R) (v0 v2 v3 v4 : GV) (h : Heap) := l6 k G k v0 v2 v3 v4 h
theorem n6_eq (G : KT2 R) : KC k 23 c6 σ h (Q2 G 2 3) = W4 (n6 k G) 0 2 3 4 σ h := (kloopc_eq (a := c7) rfl).trans (l6_eq k G k σ h)
@[simp] def n5 (G : KT2 R) (v0 v2 v3 v4 : GV) (h : Heap) := n6 k (fun x v2 v3 h => kb 0 x fun x => G x v2 v3 h) v0 v2 v3 v4 h
theorem n5_eq (G : KT2 R) : KC k 23 c5 σ h (Q2 G 2 3) = W4 (n5 k G) 0 2 3 4 σ h := (kblock_eq (a := c6) rfl).trans (n6_eq k σ h (fun x v2 v3 h => kb 0 x fun x => G x v2 v3 h))
noncomputable def c13 := cL c4
@[simp] def n4 (G : KT2 R) (v0 v2 v3 : GV) (h : Heap) := n5 k G v0 v2 v3 (.int .i64 0) h
theorem n4_eq (G : KT2 R) : KC k 23 c4 σ h (Q2 G 2 3) = W3 (n4 k G) 0 2 3 σ h := (kseq (a := c13) (b := c5) rfl (fun σ h => n5_eq k σ h G)).trans (by kernel_rfl)
@[simp] def n2 (G : KT1 R) (v0 v2 v3 : GV) (h : Heap) := n4 k (fun x v2 v3 h => kx x (n3 k G v3 h) (G x v2 h)) v0 v2 v3 h
theorem n2_eq (G : KT1 R) : KC k 23 c2 σ h (Q1 G 2) = W3 (n2 k G) 0 2 3 σ h := (kseq (b := c3) rfl (fun σ h => n3_eq k σ h G)).trans (n4_eq k σ h (fun x v2 v3 h => kx x (n3 k G v3 h) (G x v2 h)))
noncomputable def c14 := cL c1
@[simp] def n1 (G : KT1 R) (v0 v2 : GV) (h : Heap) := (klen v0).bind fun v6 => (kmake [.nils] 1 24 v6 v6 h).bind fun r => kr r fun v7 h => n2 k G v0 v2 v7 h
theorem n1_eq (G : KT1 R) : KC k 23 c1 σ h (Q1 G 2) = W2 (n1 k G) 0 2 σ h := (kseq (a := c14) (b := c2) rfl (fun σ h => n2_eq k σ h G)).trans (by kernel_rfl)
noncomputable def c15 := cL c0
@[simp] def n0 (G : KT1 R) (v0 : GV) (h : Heap) := n1 k G v0 .nils h
theorem n0_eq (G : KT1 R) : KC k 23 c0 σ h (Q1 G 2) = n0 k G (σ 0) h := (kseq (a := c15) (b := c1) rfl (fun σ h => n1_eq k σ h G)).trans (by kernel_rfl)
def run {R : Type} (k : Nat) (a0 : GV) (h : Heap) (fin : GV → Heap → Option R) : Option R := n0 k (fun x v2 h => kend x (fin v2 h)) a0 h
theorem gives {k : Nat} {a0 : GV} {b : Nat} {q : GV × List (List GV)} (e : run k a0 [] (finO b) = some q) : OO fn.laws_toStringSS [a0] b = some q := oω_of (((kfun_eq (nt := 23) (c := c0) (show PP.funcs[fn.laws_toStringSS]? = some Try.f100 by kernel_rfl) (by kernel_rfl) (by kernel_rfl) (fun x σ h => by cases x <;> kernel_rfl)).trans (n0_eq k _ [] _)).trans e)
end S.laws_toStringSS
namespace S.laws_toInt64SS
noncomputable def c0 := bodyOf Try.f101
noncomputable def c1 := cR c0
noncomputable def c2 := cR c1
noncomputable def c3 := cR c2
@[simp] def n3 {R : Type} (k : Nat) (G : KT1 R) (v3 : GV) (h : Heap) := G .ret v3 h
theorem n3_eq (G : KT1 R) : KC k 23 c3 σ h (Q1 G 2) = n3 k G (σ 3) h := by kernel_rfl
noncomputable def c4 := cL c2
noncomputable def c5 := cR c4
noncomputable def c6 := cL c5
noncomputable def c7 := cL c6
noncomputable def c8 := cR c7
noncomputable def c9 := cR c8
@[simp] def n9 {R : Type} (k : Nat) (G : KT4 R) (v0 v2 v3 v4 : GV) (h : Heap) := (kbin .add v4 (.int .i64 1)).bind fun v13 => G .nrm v0 v2 v3 v13 h
theorem n9_eq (G : KT4 R) : KC k 23 c9 σ h (Q4 G 0 2 3 4) = W4 (n9 k G) 0 2 3 4 σ h := by kernel_rfl
noncomputable def c10 := cL c8
noncomputable def c11 := cL c10
@[simp] def n11 {R : Type} (k : Nat) (G : KT4 R) (v0 v2 v3 v4 : GV) (h : Heap) := (kia 1 v0 v4).bind fun v18 => (kload1 h v18).bind fun v19 => (kF false HH fn.laws_toInt64S [v19] h).bind fun r => kr r fun v20 h => (kia 1 v3 v4).bind fun v21 => (kstore 1 h v21 v20).bind fun h => G .nrm v0 v2 v3 v4 h
theorem n11_eq (G : KT4 R) : KC k 23 c11 σ h (Q4 G 0 2 3 4) = W4 (n11 k G) 0 2 3 4 σ h := by kernel_rfl
@[simp] def n10 (G : KT4 R) (v0 v2 v3 v4 : GV) (h : Heap) := n11 k (fun x v0 v2 v3 v4 h => kb 1 x fun x => G x v0 v2 v3 v4 h) v0 v2 v3 v4 h
theorem n10_eq (G : KT4 R) : KC k 23 c10 σ h (Q4 G 0 2 3 4) = W4 (n10 k G) 0 2 3 4 σ h := (kblock_eq (a := c11) rfl).trans (n11_eq k σ h (fun x v0 v2 v3 v4 h => kb 1 x fun x => G x v0 v2 v3 v4 h))
@[simp] def n8 (G : KT4 R) (v0 v2 v3 v4 : GV) (h : Heap) := n10 k (fun x v0 v2 v3 v4 h => kx x (n9 k G v0 v2 v3 v4 h) (G x v0 v2 v3 v4 h)) v0 v2 v3 v4 h
theorem n8_eq (G : KT4 R) : KC k 23 c8 σ h (Q4 G 0 2 3 4) = W4 (n8 k G) 0 2 3 4 σ h := (kseq (b := c9) rfl (fun σ h => n9_eq k σ h G)).trans (n10_eq k σ h (fun x v0 v2 v3 v4 h => kx x (n9 k G v0 v2 v3 v4 h) (G x v0 v2 v3 v4 h)))
noncomputable def c12 := cL c7
@[simp] def n7 (G : KT4 R) (v0 v2 v3 v4 : GV) (h : Heap) := (klen v0).bind fun v10 => (kbin .lss v4 v10).bind fun v11 => kcond v11 (n8 k G v0 v2 v3 v4 h) (G (.ext 0) v0 v2 v3 v4 h)
theorem n7_eq (G : KT4 R) : KC k 23 c7 σ h (Q4 G 0 2 3 4) = W4 (n7 k G) 0 2 3 4 σ h := (kseq (a := c12) (b := c8) rfl (fun σ h => n8_eq k σ h G)).trans (by kernel_rfl)
def l6 {R : Type} (k : Nat) (G : KT2 R) : Nat → GV → GV → GV → GV → Heap → Option R
  | 0, _, _, _, _, _ => none
  | r + 1, v0, v2, v3, v4, h => n7 k (fun x v0 v2 v3 v4 h => kx x (l6 k G r v0 v2 v3 v4 h) (G x v2 v3 h)) v0 v2 v3 v4 h
theorem l6_eq {R : Type} (k : Nat) (G : KT2 R) : ∀ (r : Nat) (σ : GS) (h : Heap), kloop (fun σ h K => KC k 23 c7 σ h K) r σ h (Q2 G 2 3) = l6 k G r (σ 0) (σ 2) (σ 3) (σ 4) h
  | 0, _, _ => rfl
  | r + 1, σ, h => (kloop_eq (fun σ h => l6_eq k G r σ h)).trans (n7_eq k σ h (fun x v0 v2 v3 v4 h => kx x (l6 k G r v0 v2 v3 v4 h) (G x v2 v3 h)))
@[simp] def n6 (G : KT2 R) (v0 v2 v3 v4 : GV) (h : Heap) := l6 k G k v0 v2 v3 v4 h
theorem n6_eq (G : KT2 R) : KC k 23 c6 σ h (Q2 G 2 3) = W4 (n6 k G) 0 2 3 4 σ h := (kloopc_eq (a := c7) rfl).trans (l6_eq k G k σ h)
@[simp] def n5 (G : KT2 R) (v0 v2 v3 v4 : GV) (h : Heap) := n6 k (fun x v2 v3 h => kb 0 x fun x => G x v2 v3 h) v0 v2 v3 v4 h
theorem n5_eq (G : KT2 R) : KC k 23 c5 σ h (Q2 G 2 3) = W4 (n5 k G) 0 2 3 4 σ h := (kblock_eq (a := c6) rfl).trans (n6_eq k σ h (fun x v2 v3 h => kb 0 x fun x => G x v2 v3 h))
noncomputable def c13 := cL c4
@[simp] def n4 (G : KT2 R) (v0 v2 v3 : GV) (h : Heap) := n5 k G v0 v2 v3 (.int .i64 0) h
theorem n4_eq (G : KT2 R) : KC k 23 c4 σ h (Q2 G 2 3) = W3 (n4 k G) 0 2 3 σ h := (kseq (a := c13) (b := c5) rfl (fun σ h => n5_eq k σ h G)).trans (by kernel_rfl)
@[simp] def n2 (G : KT1 R) (v0 v2 v3 : GV) (h : Heap) := n4 k (fun x v2 v3 h => kx x (n3 k G v3 h) (G x v2 h)) v0 v2 v3 h
theorem n2_eq (G : KT1 R) : KC k 23 c2 σ h (Q1 G 2) = W3 (n2 k G) 0 2 3 σ h := (kseq (b := c3) rfl (fun σ h => n3_eq k σ h G)).trans (n4_eq k σ h (fun x v2 v3 h => kx x (n3 k G v3 h) (G x v2 h)))
noncomputable def c14 := cL c1
@[simp] def n1 (G : KT1 R) (v0 v2 : GV) (h : Heap) := (klen v0).bind fun v6 => (kmake [.nils] 1 24 v6 v6 h).bind fun r => kr r fun v7 h => n2 k G v0 v2 v7 h
theorem n1_eq (G : KT1 R) : KC k 23 c1 σ h (Q1 G 2) = W2 (n1 k G) 0 2 σ h := (kseq (a := c14) (b := c2) rfl (fun σ h => n2_eq k σ h G)).trans (by kernel_rfl)
noncomputable def c15 := cL c0
@[simp] def n0 (G : KT1 R) (v0 : GV) (h : Heap) := n1 k G v0 .nils h
theorem n0_eq (G : KT1 R) : KC k 23 c0 σ h (Q1 G 2) = n0 k G (σ 0) h := (kseq (a := c15) (b := c1) rfl (fun σ h => n1_eq k σ h G)).trans (by kernel_rfl)
def run {R : Type} (k : Nat) (a0 : GV) (h : Heap) (fin : GV → Heap → Option R) : Option R := n0 k (fun x v2 h => kend x (fin v2 h)) a0 h
theorem gives {k : Nat} {a0 : GV} {b : Nat} {q : GV × List (List GV)} (e : run k a0 [] (finO b) = some q) : OO fn.laws_toInt64SS [a0] b = some q := oω_of (((kfun_eq (nt := 23) (c := c0) (show PP.funcs[fn.laws_toInt64SS]? = some Try.f101 by kernel_rfl) (by kernel_rfl) (by kernel_rfl) (fun x σ h => by cases x <;> kernel_rfl)).trans (n0_eq k _ [] _)).trans e)
end S.laws_toInt64SS
namespace S.laws_eqServerS
noncomputable def c0 := bodyOf Try.f107
noncomputable def c1 := cR c0
noncomputable def c2 := cR c1
noncomputable def c3 := cR c2
@[simp] def n3 {R : Type} (k : Nat) (G : KT1 R) (h : Heap) := G .ret (.bool true) h
theorem n3_eq (G : KT1 R) : KC k 27 c3 σ h (Q1 G 4) = n3 k G h := by kernel_rfl
noncomputable def c4 := cL c2
noncomputable def c5 := cR c4
noncomputable def c6 := cL c5
noncomputable def c7 := cL c6
noncomputable def c8 := cR c7
noncomputable def c9 := cR c8
@[simp] def n9 {R : Type} (k : Nat) (G : KT4 R) (v0 v1 v4 v5 : GV) (h : Heap) := (kbin .add v5 (.int .i64 1)).bind fun v16 => G .nrm v0 v1 v4 v16 h
theorem n9_eq (G : KT4 R) : KC k 27 c9 σ h (Q4 G 0 1 4 5) = W4 (n9 k G) 0 1 4 5 σ h := by kernel_rfl
noncomputable def c10 := cL c8
noncomputable def c11 := cL c10
@[simp] def n11 {R : Type} (k : Nat) (G : KT4 R) (v0 v1 v4 v5 : GV) (h : Heap) := (kia 2 v0 v5).bind fun v19 => (kloadA 2 h v19).bind fun v20 => (kia 2 v1 v5).bind fun v23 => (kloadA 2 h v23).bind fun v24 => (kN NN fn.laws_eqServer [v20, v24] h).bind fun v25 => (kun .not v25).bind fun v26 => kcond v26 (G .ret v0 v1 (.bool false) v5 h) (G .nrm v0 v1 v4 v5 h)
theorem n11_eq (G : KT4 R) : KC k 27 c11 σ h (Q4 G 0 1 4 5) = W4 (n11 k G) 0 1 4 5 σ h := by kernel_rfl
@[simp] def n10 (G : KT4 R) (v0 v1 v4 v5 : GV) (h : Heap) := n11 k (fun x v0 v1 v4 v5 h => kb 1 x fun x => G x v0 v1 v4 v5 h) v0 v1 v4 v5 h
theorem n10_eq (G : KT4 R) : KC k 27 c10 σ h (Q4 G 0 1 4 5) = W4 (n10 k G) 0 1 4 5 σ h := (kblock_eq (a := c11) rfl).trans (n11_eq k σ h (fun x v0 v1 v4 v5 h => kb 1 x fun x => G x v0 v1 v4 v5 h))
@[simp] def n8 (G : KT4 R) (v0 v1 v4 v5 : GV) (h : Heap) := n10 k (fun x v0 v1 v4 v5 h => kx x (n9 k G v0 v1 v4 v5 h) (G x v0 v1 v4 v5 h)) v0 v1 v4 v5 h
theorem n8_eq (G : KT4 R) : KC k 27 c8 σ h (Q4 G 0 1 4 5) = W4 (n8 k G) 0 1 4 5 σ h := (kseq (b := c9) rfl (fun σ h => n9_eq k σ h G)).trans (n10_eq k σ h (fun x v0 v1 v4 v5 h => kx x (n9 k G v0 v1 v4 v5 h) (G x v0 v1 v4 v5 h)))
noncomputable def c12 := cL c7
@[simp] def n7 (G : KT4 R) (v0 v1 v4 v5 : GV) (h : Heap) := (klen v0).bind fun v13 => (kbin .lss v5 v13).bind fun v14 => kcond v14 (n8 k G v0 v1 v4 v5 h) (G (.ext 0) v0 v1 v4 v5 h)
theorem n7_eq (G : KT4 R) : KC k 27 c7 σ h (Q4 G 0 1 4 5) = W4 (n7 k G) 0 1 4 5 σ h := (kseq (a := c12) (b := c8) rfl (fun σ h => n8_eq k σ h G)).trans (by kernel_rfl)
def l6 {R : Type} (k : Nat) (G : KT1 R) : Nat → GV → GV → GV → GV → Heap → Option R
  | 0, _, _, _, _, _ => none
  | r + 1, v0, v1, v4, v5, h => n7 k (fun x v0 v1 v4 v5 h => kx x (l6 k G r v0 v1 v4 v5 h) (G x v4 h)) v0 v1 v4 v5 h
theorem l6_eq {R : Type} (k : Nat) (G : KT1 R) : ∀ (r : Nat) (σ : GS) (h : Heap), kloop (fun σ h K => KC k 27 c7 σ h K) r σ h (Q1 G 4) = l6 k G r (σ 0) (σ 1) (σ 4) (σ 5) h
  | 0, _, _ => rfl
  | r + 1, σ, h => (kloop_eq (fun σ h => l6_eq k G r σ h)).trans (n7_eq k σ h (fun x v0 v1 v4 v5 h => kx x (l6 k G r v0 v1 v4 v5 h) (G x v4 h)))
@[simp] def n6 (G : KT1 R) (v0 v1 v4 v5 : GV) (h : Heap) := l6 k G k v0 v1 v4 v5 h
theorem n6_eq (G : KT1 R) : KC k 27 c6 σ h (Q1 G 4) = W4 (n6 k G) 0 1 4 5 σ h := (kloopc_eq (a := c7) rfl).trans (l6_eq k G k σ h)
@[simp] def n5 (G : KT1 R) (v0 v1 v4 v5 : GV) (h : Heap) := n6 k (fun x v4 h => kb 0 x fun x => G x v4 h) v0 v1 v4 v5 h
theorem n5_eq (G : KT1 R) : KC k 27 c5 σ h (Q1 G 4) = W4 (n5 k G) 0 1 4 5 σ h := (kblock_eq (a := c6) rfl).trans (n6_eq k σ h (fun x v4 h => kb 0 x fun x => G x v4 h))
noncomputable def c13 := cL c4
@[simp] def n4 (G : KT1 R) (v0 v1 v4 : GV) (h : Heap) := n5 k G v0 v1 v4 (.int .i64 0) h
theorem n4_eq (G : KT1 R) : KC k 27 c4 σ h (Q1 G 4) = W3 (n4 k G) 0 1 4 σ h := (kseq (a := c13) (b := c5) rfl (fun σ h => n5_eq k σ h G)).trans (by kernel_rfl)
@[simp] def n2 (G : KT1 R) (v0 v1 v4 : GV) (h : Heap) := n4 k (fun x v4 h => kx x (n3 k G h) (G x v4 h)) v0 v1 v4 h
theorem n2_eq (G : KT1 R) : KC k 27 c2 σ h (Q1 G 4) = W3 (n2 k G) 0 1 4 σ h := (kseq (b := c3) rfl (fun σ h => n3_eq k σ h G)).trans (n4_eq k σ h (fun x v4 h => kx x (n3 k G h) (G x v4 h)))
noncomputable def c14 := cL c1
@[simp] def n1 (G : KT1 R) (v0 v1 v4 : GV) (h : Heap) := (klen v0).bind fun v7 => (klen v1).bind fun v9 => (kbin .neq v7 v9).bind fun v10 => kcond v10 (G .ret (.bool false) h) (n2 k G v0 v1 v4 h)
theorem n1_eq (G : KT1 R) : KC k 27 c1 σ h (Q1 G 4) = W3 (n1 k G) 0 1 4 σ h := (kseq (a := c14) (b := c2) rfl (fun σ h => n2_eq k σ h G)).trans (by kernel_rfl)
noncomputable def c15 := cL c0
@[simp] def n0 (G : KT1 R) (v0 v1 : GV) (h : Heap) := n1 k G v0 v1 (.bool false) h
theorem n0_eq (G : KT1 R) : KC k 27 c0 σ h (Q1 G 4) = W2 (n0 k G) 0 1 σ h := (kseq (a := c15) (b := c1) rfl (fun σ h => n1_eq k σ h G)).trans (by kernel_rfl)
def run {R : Type} (k : Nat) (a0 a1 : GV) (h : Heap) (fin : GV → Heap → Option R) : Option R := n0 k (fun x v4 h => kend x (fin v4 h)) a0 a1 h
theorem gives {k : Nat} {a0 a1 : GV} {v : GV} (e : run k a0 a1 [] finN = some v) : NN fn.laws_eqServerS [a0, a1] = some v := nω_of (by kernel_rfl) (((kfun_eq (nt := 27) (c := c0) (show PP.funcs[fn.laws_eqServerS]? = some Try.f107 by kernel_rfl) (by kernel_rfl) (by kernel_rfl) (fun x σ h => by cases x <;> kernel_rfl)).trans (n0_eq k _ [] _)).trans e)
end S.laws_eqServerS
namespace S.laws_eqStringSS
noncomputable def c0 := bodyOf Try.f108
noncomputable def c1 := cR c0
noncomputable def c2 := cR c1
noncomputable def c3 := cR c2
@[simp] def n3 {R : Type} (k : Nat) (G : KT1 R) (h : Heap) := G .ret (.bool true) h
theorem n3_eq (G : KT1 R) : KC k 27 c3 σ h (Q1 G 4) = n3 k G h := by kernel_rfl
noncomputable def c4 := cL c2
noncomputable def c5 := cR c4
noncomputable def c6 := cL c5
noncomputable def c7 := cL c6
noncomputable def c8 := cR c7
noncomputable def c9 := cR c8
@[simp] def n9 {R : Type} (k : Nat) (G : KT4 R) (v0 v1 v4 v5 : GV) (h : Heap) := (kbin .add v5 (.int .i64 1)).bind fun v16 => G .nrm v0 v1 v4 v16 h
theorem n9_eq (G : KT4 R) : KC k 27 c9 σ h (Q4 G 0 1 4 5) = W4 (n9 k G) 0 1 4 5 σ h := by kernel_rfl
noncomputable def c10 := cL c8
noncomputable def c11 := cL c10
@[simp] def n11 {R : Type} (k : Nat) (G : KT4 R) (v0 v1 v4 v5 : GV) (h : Heap) := (kia 1 v0 v5).bind fun v19 => (kload1 h v19).bind fun v20 => (kia 1 v1 v5).bind fun v23 => (kload1 h v23).bind fun v24 => (kN NN fn.laws_eqStringS [v20, v24] h).bind fun v25 => (kun .not v25).bind fun v26 => kcond v26 (G .ret v0 v1 (.bool false) v5 h) (G .nrm v0 v1 v4 v5 h)
theorem n11_eq (G : KT4 R) : KC k 27 c11 σ h (Q4 G 0 1 4 5) = W4 (n11 k G) 0 1 4 5 σ h := by kernel_rfl
@[simp] def n10 (G : KT4 R) (v0 v1 v4 v5 : GV) (h : Heap) := n11 k (fun x v0 v1 v4 v5 h => kb 1 x fun x => G x v0 v1 v4 v5 h) v0 v1 v4 v5 h
theorem n10_eq (G : KT4 R) : KC k 27 c10 σ h (Q4 G 0 1 4 5) = W4 (n10 k G) 0 1 4 5 σ h := (kblock_eq (a := c11) rfl).trans (n11_eq k σ h (fun x v0 v1 v4 v5 h => kb 1 x fun x => G x v0 v1 v4 v5 h))
@[simp] def n8 (G : KT4 R) (v0 v1 v4 v5 : GV) (h : Heap) := n10 k (fun x v0 v1 v4 v5 h => kx x (n9 k G v0 v1 v4 v5 h) (G x v0 v1 v4 v5 h)) v0 v1 v4 v5 h
theorem n8_eq (G : KT4 R) : KC k 27 c8 σ h (Q4 G 0 1 4 5) = W4 (n8 k G) 0 1 4 5 σ h := (kseq (b := c9) rfl (fun σ h => n9_eq k σ h G)).trans (n10_eq k σ h (fun x v0 v1 v4 v5 h => kx x (n9 k G v0 v1 v4 v5 h) (G x v0 v1 v4 v5 h)))
noncomputable def c12 := cL c7
@[simp] def n7 (G : KT4 R) (v0 v1 v4 v5 : GV) (h : Heap) := (klen v0).bind fun v13 => (kbin .lss v5 v13).bind fun v14 => kcond v14 (n8 k G v0 v1 v4 v5 h) (G (.ext 0) v0 v1 v4 v5 h)
theorem n7_eq (G : KT4 R) : KC k 27 c7 σ h (Q4 G 0 1 4 5) = W4 (n7 k G) 0 1 4 5 σ h := (kseq (a := c12) (b := c8) rfl (fun σ h => n8_eq k σ h G)).trans (by kernel_rfl)
def l6 {R : Type} (k : Nat) (G : KT1 R) : Nat → GV → GV → GV → GV → Heap → Option R
  | 0, _, _, _, _, _ => none
  | r + 1, v0, v1, v4, v5, h => n7 k (fun x v0 v1 v4 v5 h => kx x (l6 k G r v0 v1 v4 v5 h) (G x v4 h)) v0 v1 v4 v5 h
theorem l6_eq {R : Type} (k : Nat) (G : KT1 R) : ∀ (r : Nat) (σ : GS) (h : Heap), kloop (fun σ h K => KC k 27 c7 σ h K) r σ h (Q1 G 4) = l6 k G r (σ 0) (σ 1) (σ 4) (σ 5) h
  | 0, _, _ => rfl
  | r + 1, σ, h => (kloop_eq (fun σ h => l6_eq k G r σ h)).trans (n7_eq k σ h (fun x v0 v1 v4 v5 h => kx x (l6 k G r v0 v1 v4 v5 h) (G x v4 h)))
@[simp] def n6 (G : KT1 R) (v0 v1 v4 v5 : GV) (h : Heap) := l6 k G k v0 v1 v4 v5 h
theorem n6_eq (G : KT1 R) : KC k 27 c6 σ h (Q1 G 4) = W4 (n6 k G) 0 1 4 5 σ h := (kloopc_eq (a := c7) rfl).trans (l6_eq k G k σ h)
@[simp] def n5 (G : KT1 R) (v0 v1 v4 v5 : GV) (h : Heap) := n6 k (fun x v4 h => kb 0 x fun x => G x v4 h) v0 v1 v4 v5 h
theorem n5_eq (G : KT1 R) : KC k 27 c5 σ h (Q1 G 4) = W4 (n5 k G) 0 1 4 5 σ h := (kblock_eq (a := c6) rfl).trans (n6_eq k σ h (fun x v4 h => kb 0 x fun x => G x v4 h))
noncomputable def c13 := cL c4
@[simp] def n4 (G : KT1 R) (v0 v1 v4 : GV) (h : Heap) := n5 k G v0 v1 v4 (.int .i64 0) h
theorem n4_eq (G : KT1 R) : KC k 27 c4 σ h (Q1 G 4) = W3 (n4 k G) 0 1 4 σ h := (kseq (a := c13) (b := c5) rfl (fun σ h => n5_eq k σ h G)).trans (by kernel_rfl)
@[simp] def n2 (G : KT1 R) (v0 v1 v4 : GV) (h : Heap) := n4 k (fun x v4 h => kx x (n3 k G h) (G x v4 h)) v0 v1 v4 h
theorem n2_eq (G : KT1 R) : KC k 27 c2 σ h (Q1 G 4) = W3 (n2 k G) 0 1 4 σ h := (kseq (b := c3) rfl (fun σ h => n3_eq k σ h G)).trans (n4_eq k σ h (fun x v4 h => kx x (n3 k G h) (G x v4 h)))
noncomputable def c14 := cL c1
@[simp] def n1 (G : KT1 R) (v0 v1 v4 : GV) (h : Heap) := (klen v0).bind fun v7 => (klen v1).bind fun v9 => (kbin .neq v7 v9).bind fun v10 => kcond v10 (G .ret (.bool false) h) (n2 k G v0 v1 v4 h)
theorem n1_eq (G : KT1 R) : KC k 27 c1 σ h (Q1 G 4) = W3 (n1 k G) 0 1 4 σ h := (kseq (a := c14) (b := c2) rfl (fun σ h => n2_eq k σ h G)).trans (by kernel_rfl)
noncomputable def c15 := cL c0
@[simp] def n0 (G : KT1 R) (v0 v1 : GV) (h : Heap) := n1 k G v0 v1 (.bool false) h
theorem n0_eq (G : KT1 R) : KC k 27 c0 σ h (Q1 G 4) = W2 (n0 k G) 0 1 σ h := (kseq (a := c15) (b := c1) rfl (fun σ h => n1_eq k σ h G)).trans (by kernel_rfl)
def run {R : Type} (k : Nat) (a0 a1 : GV) (h : Heap) (fin : GV → Heap → Option R) : Option R := n0 k (fun x v4 h => kend x (fin v4 h)) a0 a1 h
theorem gives {k : Nat} {a0 a1 : GV} {v : GV} (e : run k a0 a1 [] finN = some v) : NN fn.laws_eqStringSS [a0, a1] = some v := nω_of (by kernel_rfl) (((kfun_eq (nt := 27) (c := c0) (show PP.funcs[fn.laws_eqStringSS]? = some Try.f108 by kernel_rfl) (by kernel_rfl) (by kernel_rfl) (fun x σ h => by cases x <;> kernel_rfl)).trans (n0_eq k _ [] _)).trans e)
end S.laws_eqStringSS
namespace S.laws_eqInt64SS
noncomputable def c0 := bodyOf Try.f109
noncomputable def c1 := cR c0
noncomputable def c2 := cR c1
noncomputable def c3 := cR c2
@[simp] def n3 {R : Type} (k : Nat) (G : KT1 R) (h : Heap) := G .ret (.bool true) h
theorem n3_eq (G : KT1 R) : KC k 27 c3 σ h (Q1 G 4) = n3 k G h := by kernel_rfl
noncomputable def c4 := cL c2
noncomputable def c5 := cR c4
noncomputable def c6 := cL c5
noncomputable def c7 := cL c6
noncomputable def c8 := cR c7
noncomputable def c9 := cR c8
@[simp] def n9 {R : Type} (k : Nat) (G : KT4 R) (v0 v1 v4 v5 : GV) (h : Heap) := (kbin .add v5 (.int .i64 1)).bind fun v16 => G .nrm v0 v1 v4 v16 h
theorem n9_eq (G : KT4 R) : KC k 27 c9 σ h (Q4 G 0 1 4 5) = W4 (n9 k G) 0 1 4 5 σ h := by kernel_rfl
noncomputable def c10 := cL c8
noncomputable def c11 := cL c10
@[simp] def n11 {R : Type} (k : Nat) (G : KT4 R) (v0 v1 v4 v5 : GV) (h : Heap) := (kia 1 v0 v5).bind fun v19 => (kload1 h v19).bind fun v20 => (kia 1 v1 v5).bind fun v23 => (kload1 h v23).bind fun v24 => (kN NN fn.laws_eqInt64S [v20, v24] h).bind fun v25 => (kun .not v25).bind fun v26 => kcond v26 (G .ret v0 v1 (.bool false) v5 h) (G .nrm v0 v1 v4 v5 h)
theorem n11_eq (G : KT4 R) : KC k 27 c11 σ h (Q4 G 0 1 4 5) = W4 (n11 k G) 0 1 4 5 σ h := by kernel_rfl
@[simp] def n10 (G : KT4 R) (v0 v1 v4 v5 : GV) (h : Heap) := n11 k (fun x v0 v1 v4 v5 h => kb 1 x fun x => G x v0 v1 v4 v5 h) v0 v1 v4 v5 h
theorem n10_eq (G : KT4 R) : KC k 27 c10 σ h (Q4 G 0 1 4 5) = W4 (n10 k G) 0 1 4 5 σ h := (kblock_eq (a := c11) rfl).trans (n11_eq k σ h (fun x v0 v1 v4 v5 h => kb 1 x fun x => G x v0 v1 v4 v5 h))
@[simp] def n8 (G : KT4 R) (v0 v1 v4 v5 : GV) (h : Heap) := n10 k (fun x v0 v1 v4 v5 h => kx x (n9 k G v0 v1 v4 v5 h) (G x v0 v1 v4 v5 h)) v0 v1 v4 v5 h
theorem n8_eq (G : KT4 R) : KC k 27 c8 σ h (Q4 G 0 1 4 5) = W4 (n8 k G) 0 1 4 5 σ h := (kseq (b := c9) rfl (fun σ h => n9_eq k σ h G)).trans (n10_eq k σ h (fun x v0 v1 v4 v5 h => kx x (n9 k G v0 v1 v4 v5 h) (G x v0 v1 v4 v5 h)))
noncomputable def c12 := cL c7
@[simp] def n7 (G : KT4 R) (v0 v1 v4 v5 : GV) (h : Heap) := (klen v0).bind fun v13 => (kbin .lss v5 v13).bind fun v14 => kcond v14 (n8 k G v0 v1 v4 v5 h) (G (.ext 0) v0 v1 v4 v5 h)
theorem n7_eq (G : KT4 R) : KC k 27 c7 σ h (Q4 G 0 1 4 5) = W4 (n7 k G) 0 1 4 5 σ h := (kseq (a := c12) (b := c8) rfl (fun σ h => n8_eq k σ h G)).trans (by kernel_rfl)
def l6 {R : Type} (k : Nat) (G : KT1 R) : Nat → GV → GV → GV → GV → Heap → Option R
  | 0, _, _, _, _, _ => none
  | r + 1, v0, v1, v4, v5, h => n7 k (fun x v0 v1 v4 v5 h => kx x (l6 k G r v0 v1 v4 v5 h) (G x v4 h)) v0 v1 v4 v5 h
theorem l6_eq {R : Type} (k : Nat) (G : KT1 R) : ∀ (r : Nat) (σ : GS) (h : Heap), kloop (fun σ h K => KC k 27 c7 σ h K) r σ h (Q1 G 4) = l6 k G r (σ 0) (σ 1) (σ 4) (σ 5) h
  | 0, _, _ => rfl
  | r + 1, σ, h => (kloop_eq (fun σ h => l6_eq k G r σ h)).trans (n7_eq k σ h (fun x v0 v1 v4 v5 h => kx x (l6 k G r v0 v1 v4 v5 h) (G x v4 h)))
@[simp] def n6 (G : KT1 R) (v0 v1 v4 v5 : GV) (h : Heap) := l6 k G k v0 v1 v4 v5 h
theorem n6_eq (G : KT1 R) : KC k 27 c6 σ h (Q1 G 4) = W4 (n6 k G) 0 1 4 5 σ h := (kloopc_eq (a := c7) rfl).trans (l6_eq k G k σ h)
@[simp] def n5 (G : KT1 R) (v0 v1 v4 v5 : GV) (h : Heap) := n6 k (fun x v4 h => kb 0 x fun x => G x v4 h) v0 v1 v4 v5 h
theorem n5_eq (G : KT1 R) : KC k 27 c5 σ h (Q1 G 4) = W4 (n5 k G) 0 1 4 5 σ h := (kblock_eq (a := c6) rfl).trans (n6_eq k σ h (fun x v4 h => kb 0 x fun x => G x v4 h))
noncomputable def c13 := cL c4
@[simp] def n4 (G : KT1 R) (v0 v1 v4 : GV) (h : Heap) := n5 k G v0 v1 v4 (.int .i64 0) h
theorem n4_eq (G : KT1 R) : KC k 27 c4 σ h (Q1 G 4) = W3 (n4 k G) 0 1 4 σ h := (kseq (a := c13) (b := c5) rfl (fun σ h => n5_eq k σ h G)).trans (by kernel_rfl)
@[simp] def n2 (G : KT1 R) (v0 v1 v4 : GV) (h : Heap) := n4 k (fun x v4 h => kx x (n3 k G h) (G x v4 h)) v0 v1 v4 h
theorem n2_eq (G : KT1 R) : KC k 27 c2 σ h (Q1 G 4) = W3 (n2 k G) 0 1 4 σ h := (kseq (b := c3) rfl (fun σ h => n3_eq k σ h G)).trans (n4_eq k σ h (fun x v4 h => kx x (n3 k G h) (G x v4 h)))
noncomputable def c14 := cL c1
@[simp] def n1 (G : KT1 R) (v0 v1 v4 : GV) (h : Heap) := (klen v0).bind fun v7 => (klen v1).bind fun v9 => (kbin .neq v7 v9).bind fun v10 => kcond v10 (G .ret (.bool false) h) (n2 k G v0 v1 v4 h)
theorem n1_eq (G : KT1 R) : KC k 27 c1 σ h (Q1 G 4) = W3 (n1 k G) 0 1 4 σ h := (kseq (a := c14) (b := c2) rfl (fun σ h => n2_eq k σ h G)).trans (by kernel_rfl)
noncomputable def c15 := cL c0
@[simp] def n0 (G : KT1 R) (v0 v1 : GV) (h : Heap) := n1 k G v0 v1 (.bool false) h
theorem n0_eq (G : KT1 R) : KC k 27 c0 σ h (Q1 G 4) = W2 (n0 k G) 0 1 σ h := (kseq (a := c15) (b := c1) rfl (fun σ h => n1_eq k σ h G)).trans (by kernel_rfl)
def run {R : Type} (k : Nat) (a0 a1 : GV) (h : Heap) (fin : GV → Heap → Option R) : Option R := n0 k (fun x v4 h => kend x (fin v4 h)) a0 a1 h
theorem gives {k : Nat} {a0 a1 : GV} {v : GV} (e : run k a0 a1 [] finN = some v) : NN fn.laws_eqInt64SS [a0, a1] = some v := nω_of (by kernel_rfl) (((kfun_eq (nt := 27) (c := c0) (show PP.funcs[fn.laws_eqInt64SS]? = some Try.f109 by kernel_rfl) (by kernel_rfl) (by kernel_rfl) (fun x σ h => by cases x <;> kernel_rfl)).trans (n0_eq k _ [] _)).trans e)
end S.laws_eqInt64SS
namespace S.laws_markServerS
noncomputable def c0 := bodyOf Try.f110
noncomputable def c1 := cR c0
noncomputable def c2 := cR c1
@[simp] def n2 {R : Type} (k : Nat) (G : KT1 R) (v1 : GV) (h : Heap) := G .ret v1 h
theorem n2_eq (G : KT1 R) : KC k 27 c2 σ h (Q1 G 4) = n2 k G (σ 1) h := by kernel_rfl
noncomputable def c3 := cL c1
noncomputable def c4 := cR c3
noncomputable def c5 := cL c4
noncomputable def c6 := cL c5
noncomputable def c7 := cR c6
noncomputable def c8 := cR c7
@[simp] def n8 {R : Type} (k : Nat) (G : KT4 R) (v0 v1 v4 v5 : GV) (h : Heap) := (kbin .add v5 (.int .i64 1)).bind fun v11 => G .nrm v0 v1 v4 v11 h
theorem n8_eq (G : KT4 R) : KC k 27 c8 σ h (Q4 G 0 1 4 5) = W4 (n8 k G) 0 1 4 5 σ h := by kernel_rfl
noncomputable def c9 := cL c7
noncomputable def c10 := cL c9
@[simp] def n10 {R : Type} (k : Nat) (G : KT4 R) (v0 v1 v4 v5 : GV) (h : Heap) := (kia 2 v0 v5).bind fun v14 => (kfa 0 v14).bind fun v15 => (kload1 h v15).bind fun v16 => (HH fn.laws_markStringS [v16, v1] h).bind fun r => kr r fun v18 h => (kia 2 v0 v5).bind fun v22 => (kfa 1 v22).bind fun v23 => (kstore 1 h v23 v18).bind fun h => (kbin .add v18 (.int .i64 1)).bind fun v25 => G .nrm v0 v25 v4 v5 h
theorem n10_eq (G : KT4 R) : KC k 27 c10 σ h (Q4 G 0 1 4 5) = W4 (n10 k G) 0 1 4 5 σ h := by kernel_rfl
@[simp] def n9 (G : KT4 R) (v0 v1 v4 v5 : GV) (h : Heap) := n10 k (fun x v0 v1 v4 v5 h => kb 1 x fun x => G x v0 v1 v4 v5 h) v0 v1 v4 v5 h
theorem n9_eq (G : KT4 R) : KC k 27 c9 σ h (Q4 G 0 1 4 5) = W4 (n9 k G) 0 1 4 5 σ h := (kblock_eq (a := c10) rfl).trans (n10_eq k σ h (fun x v0 v1 v4 v5 h => kb 1 x fun x => G x v0 v1 v4 v5 h))
@[simp] def n7 (G : KT4 R) (v0 v1 v4 v5 : GV) (h : Heap) := n9 k (fun x v0 v1 v4 v5 h => kx x (n8 k G v0 v1 v4 v5 h) (G x v0 v1 v4 v5 h)) v0 v1 v4 v5 h
theorem n7_eq (G : KT4 R) : KC k 27 c7 σ h (Q4 G 0 1 4 5) = W4 (n7 k G) 0 1 4 5 σ h := (kseq (b := c8) rfl (fun σ h => n8_eq k σ h G)).trans (n9_eq k σ h (fun x v0 v1 v4 v5 h => kx x (n8 k G v0 v1 v4 v5 h) (G x v0 v1 v4 v5 h)))
noncomputable def c11 := cL c6
@[simp] def n6 (G : KT4 R) (v0 v1 v4 v5 : GV) (h : Heap) := (klen v0).bind fun v8 => (kbin .lss v5 v8).bind fun v9 => kcond v9 (n7 k G v0 v1 v4 v5 h) (G (.ext 0) v0 v1 v4 v5 h)
theorem n6_eq (G : KT4 R) : KC k 27 c6 σ h (Q4 G 0 1 4 5) = W4 (n6 k G) 0 1 4 5 σ h := (kseq (a := c11) (b := c7) rfl (fun σ h => n7_eq k σ h G)).trans (by kernel_rfl)
def l5 {R : Type} (k : Nat) (G : KT2 R) : Nat → GV → GV → GV → GV → Heap → Option R
  | 0, _, _, _, _, _ => none
  | r + 1, v0, v1, v4, v5, h => n6 k (fun x v0 v1 v4 v5 h => kx x (l5 k G r v0 v1 v4 v5 h) (G x v1 v4 h)) v0 v1 v4 v5 h
theorem l5_eq {R : Type} (k : Nat) (G : KT2 R) : ∀ (r : Nat) (σ : GS) (h : Heap), kloop (fun σ h K => KC k 27 c6 σ h K) r σ h (Q2 G 1 4) = l5 k G r (σ 0) (σ 1) (σ 4) (σ 5) h
  | 0, _, _ => rfl
  | r + 1, σ, h => (kloop_eq (fun σ h => l5_eq k G r σ h)).trans (n6_eq k σ h (fun x v0 v1 v4 v5 h => kx x (l5 k G r v0 v1 v4 v5 h) (G x v1 v4 h)))
@[simp] def n5 (G : KT2 R) (v0 v1 v4 v5 : GV) (h : Heap) := l5 k G k v0 v1 v4 v5 h
theorem n5_eq (G : KT2 R) : KC k 27 c5 σ h (Q2 G 1 4) = W4 (n5 k G) 0 1 4 5 σ h := (kloopc_eq (a := c6) rfl).trans (l5_eq k G k σ h)
@[simp] def n4 (G : KT2 R) (v0 v1 v4 v5 : GV) (h : Heap) := n5 k (fun x v1 v4 h => kb 0 x fun x => G x v1 v4 h) v0 v1 v4 v5 h
theorem n4_eq (G : KT2 R) : KC k 27 c4 σ h (Q2 G 1 4) = W4 (n4 k G) 0 1 4 5 σ h := (kblock_eq (a := c5) rfl).trans (n5_eq k σ h (fun x v1 v4 h => kb 0 x fun x => G x v1 v4 h))
noncomputable def c12 := cL c3
@[simp] def n3 (G : KT2 R) (v0 v1 v4 : GV) (h : Heap) := n4 k G v0 v1 v4 (.int .i64 0) h
theorem n3_eq (G : KT2 R) : KC k 27 c3 σ h (Q2 G 1 4) = W3 (n3 k G) 0 1 4 σ h := (kseq (a := c12) (b := c4) rfl (fun σ h => n4_eq k σ h G)).trans (by kernel_rfl)
@[simp] def n1 (G : KT1 R) (v0 v1 v4 : GV) (h : Heap) := n3 k (fun x v1 v4 h => kx x (n2 k G v1 h) (G x v4 h)) v0 v1 v4 h
theorem n1_eq (G : KT1 R) : KC k 27 c1 σ h (Q1 G 4) = W3 (n1 k G) 0 1 4 σ h := (kseq (b := c2) rfl (fun σ h => n2_eq k σ h G)).trans (n3_eq k σ h (fun x v1 v4 h => kx x (n2 k G v1 h) (G x v4 h)))
noncomputable def c13 := cL c0
@[simp] def n0 (G : KT1 R) (v0 v1 : GV) (h : Heap) := n1 k G v0 v1 (.int .i64 0) h
theorem n0_eq (G : KT1 R) : KC k 27 c0 σ h (Q1 G 4) = W2 (n0 k G) 0 1 σ h := (kseq (a := c13) (b := c1) rfl (fun σ h => n1_eq k σ h G)).trans (by kernel_rfl)
def run {R : Type} (k : Nat) (a0 a1 : GV) (h : Heap) (fin : GV → Heap → Option R) : Option R := n0 k (fun x v4 h => kend x (fin v4 h)) a0 a1 h
theorem gives {k : Nat} {a0 a1 : GV} {h : Heap} {r : GV × Heap} (e : run k a0 a1 h finH = some r) : HH fn.laws_markServerS [a0, a1] h = some r := kω_of (((kfun_eq (nt := 27) (c := c0) (show PP.funcs[fn.laws_markServerS]? = some Try.f110 by kernel_rfl) (by kernel_rfl) (by kernel_rfl) (fun x σ h => by cases x <;> kernel_rfl)).trans (n0_eq k _ h _)).trans e)
end S.laws_markServerS
namespace S.laws_markStringSS
noncomputable def c0 := bodyOf Try.f111
noncomputable def c1 := cR c0
noncomputable def c2 := cR c1
@[simp] def n2 {R : Type} (k : Nat) (G : KT1 R) (v1 : GV) (h : Heap) := G .ret v1 h
theorem n2_eq (G : KT1 R) : KC k 19 c2 σ h (Q1 G 4) = n2 k G (σ 1) h := by kernel_rfl
noncomputable def c3 := cL c1
noncomputable def c4 := cR c3
noncomputable def c5 := cL c4
noncomputable def c6 := cL c5
noncomputable def c7 := cR c6
noncomputable def c8 := cR c7
@[simp] def n8 {R : Type} (k : Nat) (G : KT4 R) (v0 v1 v4 v5 : GV) (h : Heap) := (kbin .add v5 (.int .i64 1)).bind fun v11 => G .nrm v0 v1 v4 v11 h
theorem n8_eq (G : KT4 R) : KC k 19 c8 σ h (Q4 G 0 1 4 5) = W4 (n8 k G) 0 1 4 5 σ h := by kernel_rfl
noncomputable def c9 := cL c7
noncomputable def c10 := cL c9
@[simp] def n10 {R : Type} (k : Nat) (G : KT4 R) (v0 v1 v4 v5 : GV) (h : Heap) := (kia 1 v0 v5).bind fun v14 => (kload1 h v14).bind fun v15 => (HH fn.laws_markStringS [v15, v1] h).bind fun r => kr r fun v17 h => G .nrm v0 v17 v4 v5 h
theorem n10_eq (G : KT4 R) : KC k 19 c10 σ h (Q4 G 0 1 4 5) = W4 (n10 k G) 0 1 4 5 σ h := by kernel_rfl
@[simp] def n9 (G : KT4 R) (v0 v1 v4 v5 : GV) (h : Heap) := n10 k (fun x v0 v1 v4 v5 h => kb 1 x fun x => G x v0 v1 v4 v5 h) v0 v1 v4 v5 h
theorem n9_eq (G : KT4 R) : KC k 19 c9 σ h (Q4 G 0 1 4 5) = W4 (n9 k G) 0 1 4 5 σ h := (kblock_eq (a := c10) rfl).trans (n10_eq k σ h (fun x v0 v1 v4 v5 h => kb 1 x fun x => G x v0 v1 v4 v5 h))
@[simp] def n7 (G : KT4 R) (v0 v1 v4 v5 : GV) (h : Heap) := n9 k (fun x v0 v1 v4 v5 h => kx x (n8 k G v0 v1 v4 v5 h) (G x v0 v1 v4 v5 h)) v0 v1 v4 v5 h
theorem n7_eq (G : KT4 R) : KC k 19 c7 σ h (Q4 G 0 1 4 5) = W4 (n7 k G) 0 1 4 5 σ h := (kseq (b := c8) rfl (fun σ h => n8_eq k σ h G)).trans (n9_eq k σ h (fun x v0 v1 v4 v5 h => kx x (n8 k G v0 v1 v4 v5 h) (G x v0 v1 v4 v5 h)))
noncomputable def c11 := cL c6
@[simp] def n6 (G : KT4 R) (v0 v1 v4 v5 : GV) (h : Heap) := (klen v0).bind fun v8 => (kbin .lss v5 v8).bind fun v9 => kcond v9 (n7 k G v0 v1 v4 v5 h) (G (.ext 0) v0 v1 v4 v5 h)
theorem n6_eq (G : KT4 R) : KC k 19 c6 σ h (Q4 G 0 1 4 5) = W4 (n6 k G) 0 1 4 5 σ h := (kseq (a := c11) (b := c7) rfl (fun σ h => n7_eq k σ h G)).trans (by kernel_rfl)
def l5 {R : Type} (k : Nat) (G : KT2 R) : Nat → GV → GV → GV → GV → Heap → Option R
  | 0, _, _, _, _, _ => none
  | r + 1, v0, v1, v4, v5, h => n6 k (fun x v0 v1 v4 v5 h => kx x (l5 k G r v0 v1 v4 v5 h) (G x v1 v4 h)) v0 v1 v4 v5 h
theorem l5_eq {R : Type} (k : Nat) (G : KT2 R) : ∀ (r : Nat) (σ : GS) (h : Heap), kloop (fun σ h K => KC k 19 c6 σ h K) r σ h (Q2 G 1 4) = l5 k G r (σ 0) (σ 1) (σ 4) (σ 5) h
  | 0, _, _ => rfl
  | r + 1, σ, h => (kloop_eq (fun σ h => l5_eq k G r σ h)).trans (n6_eq k σ h (fun x v0 v1 v4 v5 h => kx x (l5 k G r v0 v1 v4 v5 h) (G x v1 v4 h)))
@[simp] def n5 (G : KT2 R) (v0 v1 v4 v5 : GV) (h : Heap) := l5 k G k v0 v1 v4 v5 h
theorem n5_eq (G : KT2 R) : KC k 19 c5 σ h (Q2 G 1 4) = W4 (n5 k G) 0 1 4 5 σ h := (kloopc_eq (a := c6) rfl).trans (l5_eq k G k σ h)
@[simp] def n4 (G : KT2 R) (v0 v1 v4 v5 : GV) (h : Heap) := n5 k (fun x v1 v4 h => kb 0 x fun x => G x v1 v4 h) v0 v1 v4 v5 h
theorem n4_eq (G : KT2 R) : KC k 19 c4 σ h (Q2 G 1 4) = W4 (n4 k G) 0 1 4 5 σ h := (kblock_eq (a := c5) rfl).trans (n5_eq k σ h (fun x v1 v4 h => kb 0 x fun x => G x v1 v4 h))
noncomputable def c12 := cL c3
@[simp] def n3 (G : KT2 R) (v0 v1 v4 : GV) (h : Heap) := n4 k G v0 v1 v4 (.int .i64 0) h
theorem n3_eq (G : KT2 R) : KC k 19 c3 σ h (Q2 G 1 4) = W3 (n3 k G) 0 1 4 σ h := (kseq (a := c12) (b := c4) rfl (fun σ h => n4_eq k σ h G)).trans (by kernel_rfl)
@[simp] def n1 (G : KT1 R) (v0 v1 v4 : GV) (h : Heap) := n3 k (fun x v1 v4 h => kx x (n2 k G v1 h) (G x v4 h)) v0 v1 v4 h
theorem n1_eq (G : KT1 R) : KC k 19 c1 σ h (Q1 G 4) = W3 (n1 k G) 0 1 4 σ h := (kseq (b := c2) rfl (fun σ h => n2_eq k σ h G)).trans (n3_eq k σ h (fun x v1 v4 h => kx x (n2 k G v1 h) (G x v4 h)))
noncomputable def c13 := cL c0
@[simp] def n0 (G : KT1 R) (v0 v1 : GV) (h : Heap) := n1 k G v0 v1 (.int .i64 0) h
theorem n0_eq (G : KT1 R) : KC k 19 c0 σ h (Q1 G 4) = W2 (n0 k G) 0 1 σ h := (kseq (a := c13) (b := c1) rfl (fun σ h => n1_eq k σ h G)).trans (by kernel_rfl)
def run {R : Type} (k : Nat) (a0 a1 : GV) (h : Heap) (fin : GV → Heap → Option R) : Option R := n0 k (fun x v4 h => kend x (fin v4 h)) a0 a1 h
theorem gives {k : Nat} {a0 a1 : GV} {h : Heap} {r : GV × Heap} (e : run k a0 a1 h finH = some r) : HH fn.laws_markStringSS [a0, a1] h = some r := kω_of (((kfun_eq (nt := 19) (c := c0) (show PP.funcs[fn.laws_markStringSS]? = some Try.f111 by kernel_rfl) (by kernel_rfl) (by kernel_rfl) (fun x σ h => by cases x <;> kernel_rfl)).trans (n0_eq k _ h _)).trans e)
end S.laws_markStringSS
namespace S.laws_markInt64SS
noncomputable def c0 := bodyOf Try.f112
noncomputable def c1 := cR c0
noncomputable def c2 := cR c1
@[simp] def n2 {R : Type} (k : Nat) (G : KT1 R) (v1 : GV) (h : Heap) := G .ret v1 h
theorem n2_eq (G : KT1 R) : KC k 19 c2 σ h (Q1 G 4) = n2 k G (σ 1) h := by kernel_rfl
noncomputable def c3 := cL c1
noncomputable def c4 := cR c3
noncomputable def c5 := cL c4
noncomputable def c6 := cL c5
noncomputable def c7 := cR c6
noncomputable def c8 := cR c7
@[simp] def n8 {R : Type} (k : Nat) (G : KT4 R) (v0 v1 v4 v5 : GV) (h : Heap) := (kbin .add v5 (.int .i64 1)).bind fun v11 => G .nrm v0 v1 v4 v11 h
theorem n8_eq (G : KT4 R) : KC k 19 c8 σ h (Q4 G 0 1 4 5) = W4 (n8 k G) 0 1 4 5 σ h := by kernel_rfl
noncomputable def c9 := cL c7
noncomputable def c10 := cL c9
@[simp] def n10 {R : Type} (k : Nat) (G : KT4 R) (v0 v1 v4 v5 : GV) (h : Heap) := (kia 1 v0 v5).bind fun v14 => (kload1 h v14).bind fun v15 => (HH fn.laws_markInt64S [v15, v1] h).bind fun r => kr r fun v17 h => G .nrm v0 v17 v4 v5 h
theorem n10_eq (G : KT4 R) : KC k 19 c10 σ h (Q4 G 0 1 4 5) = W4 (n10 k G) 0 1 4 5 σ h := by kernel_rfl
@[simp] def n9 (G : KT4 R) (v0 v1 v4 v5 : GV) (h : Heap) := n10 k (fun x v0 v1 v4 v5 h => kb 1 x fun x => G x v0 v1 v4 v5 h) v0 v1 v4 v5 h
theorem n9_eq (G : KT4 R) : KC k 19 c9 σ h (Q4 G 0 1 4 5) = W4 (n9 k G) 0 1 4 5 σ h := (kblock_eq (a := c10) rfl).trans (n10_eq k σ h (fun x v0 v1 v4 v5 h => kb 1 x fun x => G x v0 v1 v4 v5 h))
@[simp] def n7 (G : KT4 R) (v0 v1 v4 v5 : GV) (h : Heap) := n9 k (fun x v0 v1 v4 v5 h => kx x (n8 k G v0 v1 v4 v5 h) (G x v0 v1 v4 v5 h)) v0 v1 v4 v5 h
theorem n7_eq (G : KT4 R) : KC k 19 c7 σ h (Q4 G 0 1 4 5) = W4 (n7 k G) 0 1 4 5 σ h := (kseq (b := c8) rfl (fun σ h => n8_eq k σ h G)).trans (n9_eq k σ h (fun x v0 v1 v4 v5 h => kx x (n8 k G v0 v1 v4 v5 h) (G x v0 v1 v4 v5 h)))
noncomputable def c11 := cL c6
@[simp] def n6 (G : KT4 R) (v0 v1 v4 v5 : GV) (h : Heap) := (klen v0).bind fun v8 => (kbin .lss v5 v8).bind fun v9 => kcond v9 (n7 k G v0 v1 v4 v5 h) (G (.ext 0) v0 v1 v4 v5 h)
theorem n6_eq (G : KT4 R) : KC k 19 c6 σ h (Q4 G 0 1 4 5) = W4 (n6 k G) 0 1 4 5 σ h := (kseq (a := c11) (b := c7) rfl (fun σ h => n7_eq k σ h G)).trans (by kernel_rfl)
def l5 {R : Type} (k : Nat) (G : KT2 R) : Nat → GV → GV → GV → GV → Heap → Option R
  | 0, _, _, _, _, _ => none
  | r + 1, v0, v1, v4, v5, h => n6 k (fun x v0 v1 v4 v5 h => kx x (l5 k G r v0 v1 v4 v5 h) (G x v1 v4 h)) v0 v1 v4 v5 h
theorem l5_eq {R : Type} (k : Nat) (G : KT2 R) : ∀ (r : Nat) (σ : GS) (h : Heap), kloop (fun σ h K => KC k 19 c6 σ h K) r σ h (Q2 G 1 4) = l5 k G r (σ 0) (σ 1) (σ 4) (σ 5) h
  | 0, _, _ => rfl
  | r + 1, σ, h => (kloop_eq (fun σ h => l5_eq k G r σ h)).trans (n6_eq k σ h (fun x v0 v1 v4 v5 h => kx x (l5 k G r v0 v1 v4 v5 h) (G x v1 v4 h)))
@[simp] def n5 (G : KT2 R) (v0 v1 v4 v5 : GV) (h : Heap) := l5 k G k v0 v1 v4 v5 h
theorem n5_eq (G : KT2 R) : KC k 19 c5 σ h (Q2 G 1 4) = W4 (n5 k G) 0 1 4 5 σ h := (kloopc_eq (a := c6) rfl).trans (l5_eq k G k σ h)
@[simp] def n4 (G : KT2 R) (v0 v1 v4 v5 : GV) (h : Heap) := n5 k (fun x v1 v4 h => kb 0 x fun x => G x v1 v4 h) v0 v1 v4 v5 h
theorem n4_eq (G : KT2 R) : KC k 19 c4 σ h (Q2 G 1 4) = W4 (n4 k G) 0 1 4 5 σ h := (kblock_eq (a := c5) rfl).trans (n5_eq k σ h (fun x v1 v4 h => kb 0 x fun x => G x v1 v4 h))
noncomputable def c12 := cL c3
@[simp] def n3 (G : KT2 R) (v0 v1 v4 : GV) (h : Heap) := n4 k G v0 v1 v4 (.int .i64 0) h
theorem n3_eq (G : KT2 R) : KC k 19 c3 σ h (Q2 G 1 4) = W3 (n3 k G) 0 1 4 σ h := (kseq (a := c12) (b := c4) rfl (fun σ h => n4_eq k σ h G)).trans (by kernel_rfl)
@[simp] def n1 (G : KT1 R) (v0 v1 v4 : GV) (h : Heap) := n3 k (fun x v1 v4 h => kx x (n2 k G v1 h) (G x v4 h)) v0 v1 v4 h
theorem n1_eq (G : KT1 R) : KC k 19 c1 σ h (Q1 G 4) = W3 (n1 k G) 0 1 4 σ h := (kseq (b := c2) rfl (fun σ h => n2_eq k σ h G)).trans (n3_eq k σ h (fun x v1 v4 h => kx x (n2 k G v1 h) (G x v4 h)))
noncomputable def c13 := cL c0
@[simp] def n0 (G : KT1 R) (v0 v1 : GV) (h : Heap) := n1 k G v0 v1 (.int .i64 0) h
theorem n0_eq (G : KT1 R) : KC k 19 c0 σ h (Q1 G 4) = W2 (n0 k G) 0 1 σ h := (kseq (a := c13) (b := c1) rfl (fun σ h => n1_eq k σ h G)).trans (by kernel_rfl)
def run {R : Type} (k : Nat) (a0 a1 : GV) (h : Heap) (fin : GV → Heap → Option R) : Option R := n0 k (fun x v4 h => kend x (fin v4 h)) a0 a1 h
theorem gives {k : Nat} {a0 a1 : GV} {h : Heap} {r : GV × Heap} (e : run k a0 a1 h finH = some r) : HH fn.laws_markInt64SS [a0, a1] h = some r := kω_of (((kfun_eq (nt := 19) (c := c0) (show PP.funcs[fn.laws_markInt64SS]? = some Try.f112 by kernel_rfl) (by kernel_rfl) (by kernel_rfl) (fun x σ h => by cases x <;> kernel_rfl)).trans (n0_eq k _ h _)).trans e)
end S.laws_markInt64SS
namespace S.laws_heldServerS
noncomputable def c0 := bodyOf Try.f113
noncomputable def c1 := cR c0
noncomputable def c2 := cR c1
@[simp] def n2 {R : Type} (k : Nat) (G : KT1 R) (v1 : GV) (h : Heap) := G .ret v1 h
theorem n2_eq (G : KT1 R) : KC k 31 c2 σ h (Q1 G 4) = n2 k G (σ 1) h := by kernel_rfl
noncomputable def c3 := cL c1
noncomputable def c4 := cR c3
noncomputable def c5 := cL c4
noncomputable def c6 := cL c5
noncomputable def c7 := cR c6
noncomputable def c8 := cR c7
@[simp] def n8 {R : Type} (k : Nat) (G : KT4 R) (v0 v1 v4 v5 : GV) (h : Heap) := (kbin .add v5 (.int .i64 1)).bind fun v11 => G .nrm v0 v1 v4 v11 h
theorem n8_eq (G : KT4 R) : KC k 31 c8 σ h (Q4 G 0 1 4 5) = W4 (n8 k G) 0 1 4 5 σ h := by kernel_rfl
noncomputable def c9 := cL c7
noncomputable def c10 := cL c9
@[simp] def n10 {R : Type} (k : Nat) (G : KT4 R) (v0 v1 v4 v5 : GV) (h : Heap) := (kia 2 v0 v5).bind fun v14 => (kfa 0 v14).bind fun v15 => (kload1 h v15).bind fun v16 => (kN NN fn.laws_heldStringS [v16, v1] h).bind fun v18 => (kbin .lss v18 (.int .i64 0)).bind fun v20 => kcond v20 (G .ret v0 v18 (.int .i64 (-1)) v5 h) ((kia 2 v0 v5).bind fun v23 => (kfa 1 v23).bind fun v24 => (kload1 h v24).bind fun v25 => (kbin .neq v25 v18).bind fun v27 => kcond v27 (G .ret v0 v18 (.int .i64 (-1)) v5 h) ((kbin .add v18 (.int .i64 1)).bind fun v29 => G .nrm v0 v29 v4 v5 h))
theorem n10_eq (G : KT4 R) : KC k 31 c10 σ h (Q4 G 0 1 4 5) = W4 (n10 k G) 0 1 4 5 σ h := by kernel_rfl
@[simp] def n9 (G : KT4 R) (v0 v1 v4 v5 : GV) (h : Heap) := n10 k (fun x v0 v1 v4 v5 h => kb 1 x fun x => G x v0 v1 v4 v5 h) v0 v1 v4 v5 h
theorem n9_eq (G : KT4 R) : KC k 31 c9 σ h (Q4 G 0 1 4 5) = W4 (n9 k G) 0 1 4 5 σ h := (kblock_eq (a := c10) rfl).trans (n10_eq k σ h (fun x v0 v1 v4 v5 h => kb 1 x fun x => G x v0 v1 v4 v5 h))
@[simp] def n7 (G : KT4 R) (v0 v1 v4 v5 : GV) (h : Heap) := n9 k (fun x v0 v1 v4 v5 h => kx x (n8 k G v0 v1 v4 v5 h) (G x v0 v1 v4 v5 h)) v0 v1 v4 v5 h
theorem n7_eq (G : KT4 R) : KC k 31 c7 σ h (Q4 G 0 1 4 5) = W4 (n7 k G) 0 1 4 5 σ h := (kseq (b := c8) rfl (fun σ h => n8_eq k σ h G)).trans (n9_eq k σ h (fun x v0 v1 v4 v5 h => kx x (n8 k G v0 v1 v4 v5 h) (G x v0 v1 v4 v5 h)))
noncomputable def c11 := cL c6
@[simp] def n6 (G : KT4 R) (v0 v1 v4 v5 : GV) (h : Heap) := (klen v0).bind fun v8 => (kbin .lss v5 v8).bind fun v9 => kcond v9 (n7 k G v0 v1 v4 v5 h) (G (.ext 0) v0 v1 v4 v5 h)
theorem n6_eq (G : KT4 R) : KC k 31 c6 σ h (Q4 G 0 1 4 5) = W4 (n6 k G) 0 1 4 5 σ h := (kseq (a := c11) (b := c7) rfl (fun σ h => n7_eq k σ h G)).trans (by kernel_rfl)
def l5 {R : Type} (k : Nat) (G : KT2 R) : Nat → GV → GV → GV → GV → Heap → Option R
  | 0, _, _, _, _, _ => none
  | r + 1, v0, v1, v4, v5, h => n6 k (fun x v0 v1 v4 v5 h => kx x (l5 k G r v0 v1 v4 v5 h) (G x v1 v4 h)) v0 v1 v4 v5 h
theorem l5_eq {R : Type} (k : Nat) (G : KT2 R) : ∀ (r : Nat) (σ : GS) (h : Heap), kloop (fun σ h K => KC k 31 c6 σ h K) r σ h (Q2 G 1 4) = l5 k G r (σ 0) (σ 1) (σ 4) (σ 5) h
  | 0, _, _ => rfl
  | r + 1, σ, h => (kloop_eq (fun σ h => l5_eq k G r σ h)).trans (n6_eq k σ h (fun x v0 v1 v4 v5 h => kx x (l5 k G r v0 v1 v4 v5 h) (G x v1 v4 h)))
@[simp] def n5 (G : KT2 R) (v0 v1 v4 v5 : GV) (h : Heap) := l5 k G k v0 v1 v4 v5 h
theorem n5_eq (G : KT2 R) : KC k 31 c5 σ h (Q2 G 1 4) = W4 (n5 k G) 0 1 4 5 σ h := (kloopc_eq (a := c6) rfl).trans (l5_eq k G k σ h)
@[simp] def n4 (G : KT2 R) (v0 v1 v4 v5 : GV) (h : Heap) := n5 k (fun x v1 v4 h => kb 0 x fun x => G x v1 v4 h) v0 v1 v4 v5 h
theorem n4_eq (G : KT2 R) : KC k 31 c4 σ h (Q2 G 1 4) = W4 (n4 k G) 0 1 4 5 σ h := (kblock_eq (a := c5) rfl).trans (n5_eq k σ h (fun x v1 v4 h => kb 0 x fun x => G x v1 v4 h))
noncomputable def c12 := cL c3
@[simp] def n3 (G : KT2 R) (v0 v1 v4 : GV) (h : Heap) := n4 k G v0 v1 v4 (.int .i64 0) h
theorem n3_eq (G : KT2 R) : KC k 31 c3 σ h (Q2 G 1 4) = W3 (n3 k G) 0 1 4 σ h := (kseq (a := c12) (b := c4) rfl (fun σ h => n4_eq k σ h G)).trans (by kernel_rfl)
@[simp] def n1 (G : KT1 R) (v0 v1 v4 : GV) (h : Heap) := n3 k (fun x v1 v4 h => kx x (n2 k G v1 h) (G x v4 h)) v0 v1 v4 h
theorem n1_eq (G : KT1 R) : KC k 31 c1 σ h (Q1 G 4) = W3 (n1 k G) 0 1 4 σ h := (kseq (b := c2) rfl (fun σ h => n2_eq k σ h G)).trans (n3_eq k σ h (fun x v1 v4 h => kx x (n2 k G v1 h) (G x v4 h)))
noncomputable def c13 := cL c0
@[simp] def n0 (G : KT1 R) (v0 v1 : GV) (h : Heap) := n1 k G v0 v1 (.int .i64 0) h
theorem n0_eq (G : KT1 R) : KC k 31 c0 σ h (Q1 G 4) = W2 (n0 k G) 0 1 σ h := (kseq (a := c13) (b := c1) rfl (fun σ h => n1_eq k σ h G)).trans (by kernel_rfl)
def run {R : Type} (k : Nat) (a0 a1 : GV) (h : Heap) (fin : GV → Heap → Option R) : Option R := n0 k (fun x v4 h => kend x (fin v4 h)) a0 a1 h
theorem gives {k : Nat} {a0 a1 : GV} {v : GV} (e : run k a0 a1 [] finN = some v) : NN fn.laws_heldServerS [a0, a1] = some v := nω_of (by kernel_rfl) (((kfun_eq (nt := 31) (c := c0) (show PP.funcs[fn.laws_heldServerS]? = some Try.f113 by kernel_rfl) (by kernel_rfl) (by kernel_rfl) (fun x σ h => by cases x <;> kernel_rfl)).trans (n0_eq k _ [] _)).trans e)
end S.laws_heldServerS
namespace S.laws_heldStringSS
noncomputable def c0 := bodyOf Try.f114
noncomputable def c1 := cR c0
noncomputable def c2 := cR c1
@[simp] def n2 {R : Type} (k : Nat) (G : KT1 R) (v1 : GV) (h : Heap) := G .ret v1 h
theorem n2_eq (G : KT1 R) : KC k 21 c2 σ h (Q1 G 4) = n2 k G (σ 1) h := by kernel_rfl
noncomputable def c3 := cL c1
noncomputable def c4 := cR c3
noncomputable def c5 := cL c4
noncomputable def c6 := cL c5
noncomputable def c7 := cR c6
noncomputable def c8 := cR c7
@[simp] def n8 {R : Type} (k : Nat) (G : KT4 R) (v0 v1 v4 v5 : GV) (h : Heap) := (kbin .add v5 (.int .i64 1)).bind fun v11 => G .nrm v0 v1 v4 v11 h
theorem n8_eq (G : KT4 R) : KC k 21 c8 σ h (Q4 G 0 1 4 5) = W4 (n8 k G) 0 1 4 5 σ h := by kernel_rfl
noncomputable def c9 := cL c7
noncomputable def c10 := cL c9
@[simp] def n10 {R : Type} (k : Nat) (G : KT4 R) (v0 v1 v4 v5 : GV) (h : Heap) := (kia 1 v0 v5).bind fun v14 => (kload1 h v14).bind fun v15 => (kN NN fn.laws_heldStringS [v15, v1] h).bind fun v17 => (kbin .lss v17 (.int .i64 0)).bind fun v19 => kcond v19 (G .ret v0 v17 (.int .i64 (-1)) v5 h) (G .nrm v0 v17 v4 v5 h)
theorem n10_eq (G : KT4 R) : KC k 21 c10 σ h (Q4 G 0 1 4 5) = W4 (n10 k G) 0 1 4 5 σ h := by kernel_rfl
@[simp] def n9 (G : KT4 R) (v0 v1 v4 v5 : GV) (h : Heap) := n10 k (fun x v0 v1 v4 v5 h => kb 1 x fun x => G x v0 v1 v4 v5 h) v0 v1 v4 v5 h
theorem n9_eq (G : KT4 R) : KC k 21 c9 σ h (Q4 G 0 1 4 5) = W4 (n9 k G) 0 1 4 5 σ h := (kblock_eq (a := c10) rfl).trans (n10_eq k σ h (fun x v0 v1 v4 v5 h => kb 1 x fun x => G x v0 v1 v4 v5 h))
@[simp] def n7 (G : KT4 R) (v0 v1 v4 v5 : GV) (h : Heap) := n9 k (fun x v0 v1 v4 v5 h => kx x (n8 k G v0 v1 v4 v5 h) (G x v0 v1 v4 v5 h)) v0 v1 v4 v5 h
theorem n7_eq (G : KT4 R) : KC k 21 c7 σ h (Q4 G 0 1 4 5) = W4 (n7 k G) 0 1 4 5 σ h := (kseq (b := c8) rfl (fun σ h => n8_eq k σ h G)).trans (n9_eq k σ h (fun x v0 v1 v4 v5 h => kx x (n8 k G v0 v1 v4 v5 h) (G x v0 v1 v4 v5 h)))
noncomputable def c11 := cL c6
@[simp] def n6 (G : KT4 R) (v0 v1 v4 v5 : GV) (h : Heap) := (klen v0).bind fun v8 => (kbin .lss v5 v8).bind fun v9 => kcond v9 (n7 k G v0 v1 v4 v5 h) (G (.ext 0) v0 v1 v4 v5 h)
theorem n6_eq (G : KT4 R) : KC k 21 c6 σ h (Q4 G 0 1 4 5) = W4 (n6 k G) 0 1 4 5 σ h := (kseq (a := c11) (b := c7) rfl (fun σ h => n7_eq k σ h G)).trans (by kernel_rfl)
def l5 {R : Type} (k : Nat) (G : KT2 R) : Nat → GV → GV → GV → GV → Heap → Option R
  | 0, _, _, _, _, _ => none
  | r + 1, v0, v1, v4, v5, h => n6 k (fun x v0 v1 v4 v5 h => kx x (l5 k G r v0 v1 v4 v5 h) (G x v1 v4 h)) v0 v1 v4 v5 h
theorem l5_eq {R : Type} (k : Nat) (G : KT2 R) : ∀ (r : Nat) (σ : GS) (h : Heap), kloop (fun σ h K => KC k 21 c6 σ h K) r σ h (Q2 G 1 4) = l5 k G r (σ 0) (σ 1) (σ 4) (σ 5) h
  | 0, _, _ => rfl
  | r + 1, σ, h => (kloop_eq (fun σ h => l5_eq k G r σ h)).trans (n6_eq k σ h (fun x v0 v1 v4 v5 h => kx x (l5 k G r v0 v1 v4 v5 h) (G x v1 v4 h)))
@[simp] def n5 (G : KT2 R) (v0 v1 v4 v5 : GV) (h : Heap) := l5 k G k v0 v1 v4 v5 h
theorem n5_eq (G : KT2 R) : KC k 21 c5 σ h (Q2 G 1 4) = W4 (n5 k G) 0 1 4 5 σ h := (kloopc_eq (a := c6) rfl).trans (l5_eq k G k σ h)
@[simp] def n4 (G : KT2 R) (v0 v1 v4 v5 : GV) (h : Heap) := n5 k (fun x v1 v4 h => kb 0 x fun x => G x v1 v4 h) v0 v1 v4 v5 h
theorem n4_eq (G : KT2 R) : KC k 21 c4 σ h (Q2 G 1 4) = W4 (n4 k G) 0 1 4 5 σ h := (kblock_eq (a := c5) rfl).trans (n5_eq k σ h (fun x v1 v4 h => kb 0 x fun x => G x v1 v4 h))
noncomputable def c12 := cL c3
@[simp] def n3 (G : KT2 R) (v0 v1 v4 : GV) (h : Heap) := n4 k G v0 v1 v4 (.int .i64 0) h
theorem n3_eq (G : KT2 R) : KC k 21 c3 σ h (Q2 G 1 4) = W3 (n3 k G) 0 1 4 σ h := (kseq (a := c12) (b := c4) rfl (fun σ h => n4_eq k σ h G)).trans (by kernel_rfl)
@[simp] def n1 (G : KT1 R) (v0 v1 v4 : GV) (h : Heap) := n3 k (fun x v1 v4 h => kx x (n2 k G v1 h) (G x v4 h)) v0 v1 v4 h
theorem n1_eq (G : KT1 R) : KC k 21 c1 σ h (Q1 G 4) = W3 (n1 k G) 0 1 4 σ h := (kseq (b := c2) rfl (fun σ h => n2_eq k σ h G)).trans (n3_eq k σ h (fun x v1 v4 h => kx x (n2 k G v1 h) (G x v4 h)))
noncomputable def c13 := cL c0
@[simp] def n0 (G : KT1 R) (v0 v1 : GV) (h : Heap) := n1 k G v0 v1 (.int .i64 0) h
theorem n0_eq (G : KT1 R) : KC k 21 c0 σ h (Q1 G 4) = W2 (n0 k G) 0 1 σ h := (kseq (a := c13) (b := c1) rfl (fun σ h => n1_eq k σ h G)).trans (by kernel_rfl)
def run {R : Type} (k : Nat) (a0 a1 : GV) (h : Heap) (fin : GV → Heap → Option R) : Option R := n0 k (fun x v4 h => kend x (fin v4 h)) a0 a1 h
theorem gives {k : Nat} {a0 a1 : GV} {v : GV} (e : run k a0 a1 [] finN = some v) : NN fn.laws_heldStringSS [a0, a1] = some v := nω_of (by kernel_rfl) (((kfun_eq (nt := 21) (c := c0) (show PP.funcs[fn.laws_heldStringSS]? = some Try.f114 by kernel_rfl) (by kernel_rfl) (by kernel_rfl) (fun x σ h => by cases x <;> kernel_rfl)).trans (n0_eq k _ [] _)).trans e)
end S.laws_heldStringSS
namespace S.laws_heldInt64SS
noncomputable def c0 := bodyOf Try.f115
noncomputable def c1 := cR c0
noncomputable def c2 := cR c1
@[simp] def n2 {R : Type} (k : Nat) (G : KT1 R) (v1 : GV) (h : Heap) := G .ret v1 h
theorem n2_eq (G : KT1 R) : KC k 21 c2 σ h (Q1 G 4) = n2 k G (σ 1) h := by kernel_rfl
noncomputable def c3 := cL c1
noncomputable def c4 := cR c3
noncomputable def c5 := cL c4
noncomputable def c6 := cL c5
noncomputable def c7 := cR c6
noncomputable def c8 := cR c7
@[simp] def n8 {R : Type} (k : Nat) (G : KT4 R) (v0 v1 v4 v5 : GV) (h : Heap) := (kbin .add v5 (.int .i64 1)).bind fun v11 => G .nrm v0 v1 v4 v11 h
theorem n8_eq (G : KT4 R) : KC k 21 c8 σ h (Q4 G 0 1 4 5) = W4 (n8 k G) 0 1 4 5 σ h := by kernel_rfl
noncomputable def c9 := cL c7
noncomputable def c10 := cL c9
@[simp] def n10 {R : Type} (k : Nat) (G : KT4 R) (v0 v1 v4 v5 : GV) (h : Heap) := (kia 1 v0 v5).bind fun v14 => (kload1 h v14).bind fun v15 => (kN NN fn.laws_heldInt64S [v15, v1] h).bind fun v17 => (kbin .lss v17 (.int .i64 0)).bind fun v19 => kcond v19 (G .ret v0 v17 (.int .i64 (-1)) v5 h) (G .nrm v0 v17 v4 v5 h)
theorem n10_eq (G : KT4 R) : KC k 21 c10 σ h (Q4 G 0 1 4 5) = W4 (n10 k G) 0 1 4 5 σ h := by kernel_rfl
@[simp] def n9 (G : KT4 R) (v0 v1 v4 v5 : GV) (h : Heap) := n10 k (fun x v0 v1 v4 v5 h => kb 1 x fun x => G x v0 v1 v4 v5 h) v0 v1 v4 v5 h
theorem n9_eq (G : KT4 R) : KC k 21 c9 σ h (Q4 G 0 1 4 5) = W4 (n9 k G) 0 1 4 5 σ h := (kblock_eq (a := c10) rfl).trans (n10_eq k σ h (fun x v0 v1 v4 v5 h => kb 1 x fun x => G x v0 v1 v4 v5 h))
@[simp] def n7 (G : KT4 R) (v0 v1 v4 v5 : GV) (h : Heap) := n9 k (fun x v0 v1 v4 v5 h => kx x (n8 k G v0 v1 v4 v5 h) (G x v0 v1 v4 v5 h)) v0 v1 v4 v5 h
theorem n7_eq (G : KT4 R) : KC k 21 c7 σ h (Q4 G 0 1 4 5) = W4 (n7 k G) 0 1 4 5 σ h := (kseq (b := c8) rfl (fun σ h => n8_eq k σ h G)).trans (n9_eq k σ h (fun x v0 v1 v4 v5 h => kx x (n8 k G v0 v1 v4 v5 h) (G x v0 v1 v4 v5 h)))
noncomputable def c11 := cL c6
@[simp] def n6 (G : KT4 R) (v0 v1 v4 v5 : GV) (h : Heap) := (klen v0).bind fun v8 => (kbin .lss v5 v8).bind fun v9 => kcond v9 (n7 k G v0 v1 v4 v5 h) (G (.ext 0) v0 v1 v4 v5 h)
theorem n6_eq (G : KT4 R) : KC k 21 c6 σ h (Q4 G 0 1 4 5) = W4 (n6 k G) 0 1 4 5 σ h := (kseq (a := c11) (b := c7) rfl (fun σ h => n7_eq k σ h G)).trans (by kernel_rfl)
def l5 {R : Type} (k : Nat) (G : KT2 R) : Nat → GV → GV → GV → GV → Heap → Option R
  | 0, _, _, _, _, _ => none
  | r + 1, v0, v1, v4, v5, h => n6 k (fun x v0 v1 v4 v5 h => kx x (l5 k G r v0 v1 v4 v5 h) (G x v1 v4 h)) v0 v1 v4 v5 h
theorem l5_eq {R : Type} (k : Nat) (G : KT2 R) : ∀ (r : Nat) (σ : GS) (h : Heap), kloop (fun σ h K => KC k 21 c6 σ h K) r σ h (Q2 G 1 4) = l5 k G r (σ 0) (σ 1) (σ 4) (σ 5) h
  | 0, _, _ => rfl
  | r + 1, σ, h => (kloop_eq (fun σ h => l5_eq k G r σ h)).trans (n6_eq k σ h (fun x v0 v1 v4 v5 h => kx x (l5 k G r v0 v1 v4 v5 h) (G x v1 v4 h)))
@[simp] def n5 (G : KT2 R) (v0 v1 v4 v5 : GV) (h : Heap) := l5 k G k v0 v1 v4 v5 h
theorem n5_eq (G : KT2 R) : KC k 21 c5 σ h (Q2 G 1 4) = W4 (n5 k G) 0 1 4 5 σ h := (kloopc_eq (a := c6) rfl).trans (l5_eq k G k σ h)
@[simp] def n4 (G : KT2 R) (v0 v1 v4 v5 : GV) (h : Heap) := n5 k (fun x v1 v4 h => kb 0 x fun x => G x v1 v4 h) v0 v1 v4 v5 h
theorem n4_eq (G : KT2 R) : KC k 21 c4 σ h (Q2 G 1 4) = W4 (n4 k G) 0 1 4 5 σ h := (kblock_eq (a := c5) rfl).trans (n5_eq k σ h (fun x v1 v4 h => kb 0 x fun x => G x v1 v4 h))
noncomputable def c12 := cL c3
@[simp] def n3 (G : KT2 R) (v0 v1 v4 : GV) (h : Heap) := n4 k G v0 v1 v4 (.int .i64 0) h
theorem n3_eq (G : KT2 R) : KC k 21 c3 σ h (Q2 G 1 4) = W3 (n3 k G) 0 1 4 σ h := (kseq (a := c12) (b := c4) rfl (fun σ h => n4_eq k σ h G)).trans (by kernel_rfl)
@[simp] def n1 (G : KT1 R) (v0 v1 v4 : GV) (h : Heap) := n3 k (fun x v1 v4 h => kx x (n2 k G v1 h) (G x v4 h)) v0 v1 v4 h
theorem n1_eq (G : KT1 R) : KC k 21 c1 σ h (Q1 G 4) = W3 (n1 k G) 0 1 4 σ h := (kseq (b := c2) rfl (fun σ h => n2_eq k σ h G)).trans (n3_eq k σ h (fun x v1 v4 h => kx x (n2 k G v1 h) (G x v4 h)))
noncomputable def c13 := cL c0
@[simp] def n0 (G : KT1 R) (v0 v1 : GV) (h : Heap) := n1 k G v0 v1 (.int .i64 0) h
theorem n0_eq (G : KT1 R) : KC k 21 c0 σ h (Q1 G 4) = W2 (n0 k G) 0 1 σ h := (kseq (a := c13) (b := c1) rfl (fun σ h => n1_eq k σ h G)).trans (by kernel_rfl)
def run {R : Type} (k : Nat) (a0 a1 : GV) (h : Heap) (fin : GV → Heap → Option R) : Option R := n0 k (fun x v4 h => kend x (fin v4 h)) a0 a1 h
theorem gives {k : Nat} {a0 a1 : GV} {v : GV} (e : run k a0 a1 [] finN = some v) : NN fn.laws_heldInt64SS [a0, a1] = some v := nω_of (by kernel_rfl) (((kfun_eq (nt := 21) (c := c0) (show PP.funcs[fn.laws_heldInt64SS]? = some Try.f115 by kernel_rfl) (by kernel_rfl) (by kernel_rfl) (fun x σ h => by cases x <;> kernel_rfl)).trans (n0_eq k _ [] _)).trans e)
end S.laws_heldInt64SS
namespace S.laws_eqStringS
noncomputable def c0 := bodyOf Try.f155
noncomputable def c1 := cR c0
noncomputable def c2 := cR c1
noncomputable def c3 := cR c2
@[simp] def n3 {R : Type} (k : Nat) (G : KT1 R) (h : Heap) := G .ret (.bool true) h
theorem n3_eq (G : KT1 R) : KC k 26 c3 σ h (Q1 G 4) = n3 k G h := by kernel_rfl
noncomputable def c4 := cL c2
noncomputable def c5 := cR c4
noncomputable def c6 := cL c5
noncomputable def c7 := cL c6
noncomputable def c8 := cR c7
noncomputable def c9 := cR c8
@[simp] def n9 {R : Type} (k : Nat) (G : KT4 R) (v0 v1 v4 v5 : GV) (h : Heap) := (kbin .add v5 (.int .i64 1)).bind fun v16 => G .nrm v0 v1 v4 v16 h
theorem n9_eq (G : KT4 R) : KC k 26 c9 σ h (Q4 G 0 1 4 5) = W4 (n9 k G) 0 1 4 5 σ h := by kernel_rfl
noncomputable def c10 := cL c8
noncomputable def c11 := cL c10
@[simp] def n11 {R : Type} (k : Nat) (G : KT4 R) (v0 v1 v4 v5 : GV) (h : Heap) := (kia 1 v0 v5).bind fun v19 => (kload1 h v19).bind fun v20 => (kia 1 v1 v5).bind fun v23 => (kload1 h v23).bind fun v24 => (kbin .neq v20 v24).bind fun v25 => kcond v25 (G .ret v0 v1 (.bool false) v5 h) (G .nrm v0 v1 v4 v5 h)
theorem n11_eq (G : KT4 R) : KC k 26 c11 σ h (Q4 G 0 1 4 5) = W4 (n11 k G) 0 1 4 5 σ h := by kernel_rfl
@[simp] def n10 (G : KT4 R) (v0 v1 v4 v5 : GV) (h : Heap) := n11 k (fun x v0 v1 v4 v5 h => kb 1 x fun x => G x v0 v1 v4 v5 h) v0 v1 v4 v5 h
theorem n10_eq (G : KT4 R) : KC k 26 c10 σ h (Q4 G 0 1 4 5) = W4 (n10 k G) 0 1 4 5 σ h := (kblock_eq (a := c11) rfl).trans (n11_eq k σ h (fun x v0 v1 v4 v5 h => kb 1 x fun x => G x v0 v1 v4 v5 h))
@[simp] def n8 (G : KT4 R) (v0 v1 v4 v5 : GV) (h : Heap) := n10 k (fun x v0 v1 v4 v5 h => kx x (n9 k G v0 v1 v4 v5 h) (G x v0 v1 v4 v5 h)) v0 v1 v4 v5 h
theorem n8_eq (G : KT4 R) : KC k 26 c8 σ h (Q4 G 0 1 4 5) = W4 (n8 k G) 0 1 4 5 σ h := (kseq (b := c9) rfl (fun σ h => n9_eq k σ h G)).trans (n10_eq k σ h (fun x v0 v1 v4 v5 h => kx x (n9 k G v0 v1 v4 v5 h) (G x v0 v1 v4 v5 h)))
noncomputable def c12 := cL c7
@[simp] def n7 (G : KT4 R) (v0 v1 v4 v5 : GV) (h : Heap) := (klen v0).bind fun v13 => (kbin .lss v5 v13).bind fun v14 => kcond v14 (n8 k G v0 v1 v4 v5 h) (G (.ext 0) v0 v1 v4 v5 h)
theorem n7_eq (G : KT4 R) : KC k 26 c7 σ h (Q4 G 0 1 4 5) = W4 (n7 k G) 0 1 4 5 σ h := (kseq (a := c12) (b := c8) rfl (fun σ h => n8_eq k σ h G)).trans (by kernel_rfl)
def l6 {R : Type} (k : Nat) (G : KT1 R) : Nat → GV → GV → GV → GV → Heap → Option R
  | 0, _, _, _, _, _ => none
  | r + 1, v0, v1, v4, v5, h => n7 k (fun x v0 v1 v4 v5 h => kx x (l6 k G r v0 v1 v4 v5 h) (G x v4 h)) v0 v1 v4 v5 h
theorem l6_eq {R : Type} (k : Nat) (G : KT1 R) : ∀ (r : Nat) (σ : GS) (h : Heap), kloop (fun σ h K => KC k 26 c7 σ h K) r σ h (Q1 G 4) = l6 k G r (σ 0) (σ 1) (σ 4) (σ 5) h
  | 0, _, _ => rfl
  | r + 1, σ, h => (kloop_eq (fun σ h => l6_eq k G r σ h)).trans (n7_eq k σ h (fun x v0 v1 v4 v5 h => kx x (l6 k G r v0 v1 v4 v5 h) (G x v4 h)))
@[simp] def n6 (G : KT1 R) (v0 v1 v4 v5 : GV) (h : Heap) := l6 k G k v0 v1 v4 v5 h
theorem n6_eq (G : KT1 R) : KC k 26 c6 σ h (Q1 G 4) = W4 (n6 k G) 0 1 4 5 σ h := (kloopc_eq (a := c7) rfl).trans (l6_eq k G k σ h)
@[simp] def n5 (G : KT1 R) (v0 v1 v4 v5 : GV) (h : Heap) := n6 k (fun x v4 h => kb 0 x fun x => G x v4 h) v0 v1 v4 v5 h
theorem n5_eq (G : KT1 R) : KC k 26 c5 σ h (Q1 G 4) = W4 (n5 k G) 0 1 4 5 σ h := (kblock_eq (a := c6) rfl).trans (n6_eq k σ h (fun x v4 h => kb 0 x fun x => G x v4 h))
noncomputable def c13 := cL c4
@[simp] def n4 (G : KT1 R) (v0 v1 v4 : GV) (h : Heap) := n5 k G v0 v1 v4 (.int .i64 0) h
theorem n4_eq (G : KT1 R) : KC k 26 c4 σ h (Q1 G 4) = W3 (n4 k G) 0 1 4 σ h := (kseq (a := c13) (b := c5) rfl (fun σ h => n5_eq k σ h G)).trans (by kernel_rfl)
@[simp] def n2 (G : KT1 R) (v0 v1 v4 : GV) (h : Heap) := n4 k (fun x v4 h => kx x (n3 k G h) (G x v4 h)) v0 v1 v4 h
theorem n2_eq (G : KT1 R) : KC k 26 c2 σ h (Q1 G 4) = W3 (n2 k G) 0 1 4 σ h := (kseq (b := c3) rfl (fun σ h => n3_eq k σ h G)).trans (n4_eq k σ h (fun x v4 h => kx x (n3 k G h) (G x v4 h)))
noncomputable def c14 := cL c1
@[simp] def n1 (G : KT1 R) (v0 v1 v4 : GV) (h : Heap) := (klen v0).bind fun v7 => (klen v1).bind fun v9 => (kbin .neq v7 v9).bind fun v10 => kcond v10 (G .ret (.bool false) h) (n2 k G v0 v1 v4 h)
theorem n1_eq (G : KT1 R) : KC k 26 c1 σ h (Q1 G 4) = W3 (n1 k G) 0 1 4 σ h := (kseq (a := c14) (b := c2) rfl (fun σ h => n2_eq k σ h G)).trans (by kernel_rfl)
noncomputable def c15 := cL c0
@[simp] def n0 (G : KT1 R) (v0 v1 : GV) (h : Heap) := n1 k G v0 v1 (.bool false) h
theorem n0_eq (G : KT1 R) : KC k 26 c0 σ h (Q1 G 4) = W2 (n0 k G) 0 1 σ h := (kseq (a := c15) (b := c1) rfl (fun σ h => n1_eq k σ h G)).trans (by kernel_rfl)
def run {R : Type} (k : Nat) (a0 a1 : GV) (h : Heap) (fin : GV → Heap → Option R) : Option R := n0 k (fun x v4 h => kend x (fin v4 h)) a0 a1 h
theorem gives {k : Nat} {a0 a1 : GV} {v : GV} (e : run k a0 a1 [] finN = some v) : NN fn.laws_eqStringS [a0, a1] = some v := nω_of (by kernel_rfl) (((kfun_eq (nt := 26) (c := c0) (show PP.funcs[fn.laws_eqStringS]? = some Try.f155 by kernel_rfl) (by kernel_rfl) (by kernel_rfl) (fun x σ h => by cases x <;> kernel_rfl)).trans (n0_eq k _ [] _)).trans e)
end S.laws_eqStringS
namespace S.laws_markStringS
noncomputable def c0 := bodyOf Try.f158
noncomputable def c1 := cR c0
noncomputable def c2 := cR c1
@[simp] def n2 {R : Type} (k : Nat) (G : KT1 R) (v1 : GV) (h : Heap) := G .ret v1 h
theorem n2_eq (G : KT1 R) : KC k 20 c2 σ h (Q1 G 4) = n2 k G (σ 1) h := by kernel_rfl
noncomputable def c3 := cL c1
noncomputable def c4 := cR c3
noncomputable def c5 := cL c4
noncomputable def c6 := cL c5
noncomputable def c7 := cR c6
noncomputable def c8 := cR c7
@[simp] def n8 {R : Type} (k : Nat) (G : KT4 R) (v0 v1 v4 v5 : GV) (h : Heap) := (kbin .add v5 (.int .i64 1)).bind fun v11 => G .nrm v0 v1 v4 v11 h
theorem n8_eq (G : KT4 R) : KC k 20 c8 σ h (Q4 G 0 1 4 5) = W4 (n8 k G) 0 1 4 5 σ h := by kernel_rfl
noncomputable def c9 := cL c7
noncomputable def c10 := cL c9
@[simp] def n10 {R : Type} (k : Nat) (G : KT4 R) (v0 v1 v4 v5 : GV) (h : Heap) := (kN NN fn.laws_markText [v1] h).bind fun v15 => (kia 1 v0 v5).bind fun v16 => (kstore 1 h v16 v15).bind fun h => (kbin .add v1 (.int .i64 1)).bind fun v18 => G .nrm v0 v18 v4 v5 h
theorem n10_eq (G : KT4 R) : KC k 20 c10 σ h (Q4 G 0 1 4 5) = W4 (n10 k G) 0 1 4 5 σ h := by kernel_rfl
@[simp] def n9 (G : KT4 R) (v0 v1 v4 v5 : GV) (h : Heap) := n10 k (fun x v0 v1 v4 v5 h => kb 1 x fun x => G x v0 v1 v4 v5 h) v0 v1 v4 v5 h
theorem n9_eq (G : KT4 R) : KC k 20 c9 σ h (Q4 G 0 1 4 5) = W4 (n9 k G) 0 1 4 5 σ h := (kblock_eq (a := c10) rfl).trans (n10_eq k σ h (fun x v0 v1 v4 v5 h => kb 1 x fun x => G x v0 v1 v4 v5 h))
@[simp] def n7 (G : KT4 R) (v0 v1 v4 v5 : GV) (h : Heap) := n9 k (fun x v0 v1 v4 v5 h => kx x (n8 k G v0 v1 v4 v5 h) (G x v0 v1 v4 v5 h)) v0 v1 v4 v5 h
theorem n7_eq (G : KT4 R) : KC k 20 c7 σ h (Q4 G 0 1 4 5) = W4 (n7 k G) 0 1 4 5 σ h := (kseq (b := c8) rfl (fun σ h => n8_eq k σ h G)).trans (n9_eq k σ h (fun x v0 v1 v4 v5 h => kx x (n8 k G v0 v1 v4 v5 h) (G x v0 v1 v4 v5 h)))
noncomputable def c11 := cL c6
@[simp] def n6 (G : KT4 R) (v0 v1 v4 v5 : GV) (h : Heap) := (klen v0).bind fun v8 => (kbin .lss v5 v8).bind fun v9 => kcond v9 (n7 k G v0 v1 v4 v5 h) (G (.ext 0) v0 v1 v4 v5 h)
theorem n6_eq (G : KT4 R) : KC k 20 c6 σ h (Q4 G 0 1 4 5) = W4 (n6 k G) 0 1 4 5 σ h := (kseq (a := c11) (b := c7) rfl (fun σ h => n7_eq k σ h G)).trans (by kernel_rfl)
def l5 {R : Type} (k : Nat) (G : KT2 R) : Nat → GV → GV → GV → GV → Heap → Option R
  | 0, _, _, _, _, _ => none
  | r + 1, v0, v1, v4, v5, h => n6 k (fun x v0 v1 v4 v5 h => kx x (l5 k G r v0 v1 v4 v5 h) (G x v1 v4 h)) v0 v1 v4 v5 h
theorem l5_eq {R : Type} (k : Nat) (G : KT2 R) : ∀ (r : Nat) (σ : GS) (h : Heap), kloop (fun σ h K => KC k 20 c6 σ h K) r σ h (Q2 G 1 4) = l5 k G r (σ 0) (σ 1) (σ 4) (σ 5) h
  | 0, _, _ => rfl
  | r + 1, σ, h => (kloop_eq (fun σ h => l5_eq k G r σ h)).trans (n6_eq k σ h (fun x v0 v1 v4 v5 h => kx x (l5 k G r v0 v1 v4 v5 h) (G x v1 v4 h)))
@[simp] def n5 (G : KT2 R) (v0 v1 v4 v5 : GV) (h : Heap) := l5 k G k v0 v1 v4 v5 h
theorem n5_eq (G : KT2 R) : KC k 20 c5 σ h (Q2 G 1 4) = W4 (n5 k G) 0 1 4 5 σ h := (kloopc_eq (a := c6) rfl).trans (l5_eq k G k σ h)
@[simp] def n4 (G : KT2 R) (v0 v1 v4 v5 : GV) (h : Heap) := n5 k (fun x v1 v4 h => kb 0 x fun x => G x v1 v4 h) v0 v1 v4 v5 h
theorem n4_eq (G : KT2 R) : KC k 20 c4 σ h (Q2 G 1 4) = W4 (n4 k G) 0 1 4 5 σ h := (kblock_eq (a := c5) rfl).trans (n5_eq k σ h (fun x v1 v4 h => kb 0 x fun x => G x v1 v4 h))
noncomputable def c12 := cL c3
@[simp] def n3 (G : KT2 R) (v0 v1 v4 : GV) (h : Heap) := n4 k G v0 v1 v4 (.int .i64 0) h
theorem n3_eq (G : KT2 R) : KC k 20 c3 σ h (Q2 G 1 4) = W3 (n3 k G) 0 1 4 σ h := (kseq (a := c12) (b := c4) rfl (fun σ h => n4_eq k σ h G)).trans (by kernel_rfl)
@[simp] def n1 (G : KT1 R) (v0 v1 v4 : GV) (h : Heap) := n3 k (fun x v1 v4 h => kx x (n2 k G v1 h) (G x v4 h)) v0 v1 v4 h
theorem n1_eq (G : KT1 R) : KC k 20 c1 σ h (Q1 G 4) = W3 (n1 k G) 0 1 4 σ h := (kseq (b := c2) rfl (fun σ h => n2_eq k σ h G)).trans (n3_eq k σ h (fun x v1 v4 h => kx x (n2 k G v1 h) (G x v4 h)))
noncomputable def c13 := cL c0
@[simp] def n0 (G : KT1 R) (v0 v1 : GV) (h : Heap) := n1 k G v0 v1 (.int .i64 0) h
theorem n0_eq (G : KT1 R) : KC k 20 c0 σ h (Q1 G 4) = W2 (n0 k G) 0 1 σ h := (kseq (a := c13) (b := c1) rfl (fun σ h => n1_eq k σ h G)).trans (by kernel_rfl)
def run {R : Type} (k : Nat) (a0 a1 : GV) (h : Heap) (fin : GV → Heap → Option R) : Option R := n0 k (fun x v4 h => kend x (fin v4 h)) a0 a1 h
theorem gives {k : Nat} {a0 a1 : GV} {h : Heap} {r : GV × Heap} (e : run k a0 a1 h finH = some r) : HH fn.laws_markStringS [a0, a1] h = some r := kω_of (((kfun_eq (nt := 20) (c := c0) (show PP.funcs[fn.laws_markStringS]? = some Try.f158 by kernel_rfl) (by kernel_rfl) (by kernel_rfl) (fun x σ h => by cases x <;> kernel_rfl)).trans (n0_eq k _ h _)).trans e)
end S.laws_markStringS
namespace S.laws_heldStringS
noncomputable def c0 := bodyOf Try.f161
noncomputable def c1 := cR c0
noncomputable def c2 := cR c1
@[simp] def n2 {R : Type} (k : Nat) (G : KT1 R) (v1 : GV) (h : Heap) := G .ret v1 h
theorem n2_eq (G : KT1 R) : KC k 22 c2 σ h (Q1 G 4) = n2 k G (σ 1) h := by kernel_rfl
noncomputable def c3 := cL c1
noncomputable def c4 := cR c3
noncomputable def c5 := cL c4
noncomputable def c6 := cL c5
noncomputable def c7 := cR c6
noncomputable def c8 := cR c7
@[simp] def n8 {R : Type} (k : Nat) (G : KT4 R) (v0 v1 v4 v5 : GV) (h : Heap) := (kbin .add v5 (.int .i64 1)).bind fun v11 => G .nrm v0 v1 v4 v11 h
theorem n8_eq (G : KT4 R) : KC k 22 c8 σ h (Q4 G 0 1 4 5) = W4 (n8 k G) 0 1 4 5 σ h := by kernel_rfl
noncomputable def c9 := cL c7
noncomputable def c10 := cL c9
@[simp] def n10 {R : Type} (k : Nat) (G : KT4 R) (v0 v1 v4 v5 : GV) (h : Heap) := (kia 1 v0 v5).bind fun v14 => (kload1 h v14).bind fun v15 => (kN NN fn.laws_markText [v1] h).bind fun v17 => (kbin .neq v15 v17).bind fun v18 => kcond v18 (G .ret v0 v1 (.int .i64 (-1)) v5 h) ((kbin .add v1 (.int .i64 1)).bind fun v20 => G .nrm v0 v20 v4 v5 h)
theorem n10_eq (G : KT4 R) : KC k 22 c10 σ h (Q4 G 0 1 4 5) = W4 (n10 k G) 0 1 4 5 σ h := by kernel_rfl
@[simp] def n9 (G : KT4 R) (v0 v1 v4 v5 : GV) (h : Heap) := n10 k (fun x v0 v1 v4 v5 h => kb 1 x fun x => G x v0 v1 v4 v5 h) v0 v1 v4 v5 h
theorem n9_eq (G : KT4 R) : KC k 22 c9 σ h (Q4 G 0 1 4 5) = W4 (n9 k G) 0 1 4 5 σ h := (kblock_eq (a := c10) rfl).trans (n10_eq k σ h (fun x v0 v1 v4 v5 h => kb 1 x fun x => G x v0 v1 v4 v5 h))
@[simp] def n7 (G : KT4 R) (v0 v1 v4 v5 : GV) (h : Heap) := n9 k (fun x v0 v1 v4 v5 h => kx x (n8 k G v0 v1 v4 v5 h) (G x v0 v1 v4 v5 h)) v0 v1 v4 v5 h
theorem n7_eq (G : KT4 R) : KC k 22 c7 σ h (Q4 G 0 1 4 5) = W4 (n7 k G) 0 1 4 5 σ h := (kseq (b := c8) rfl (fun σ h => n8_eq k σ h G)).trans (n9_eq k σ h (fun x v0 v1 v4 v5 h => kx x (n8 k G v0 v1 v4 v5 h) (G x v0 v1 v4 v5 h)))
noncomputable def c11 := cL c6
@[simp] def n6 (G : KT4 R) (v0 v1 v4 v5 : GV) (h : Heap) := (klen v0).bind fun v8 => (kbin .lss v5 v8).bind fun v9 => kcond v9 (n7 k G v0 v1 v4 v5 h) (G (.ext 0) v0 v1 v4 v5 h)
theorem n6_eq (G : KT4 R) : KC k 22 c6 σ h (Q4 G 0 1 4 5) = W4 (n6 k G) 0 1 4 5 σ h := (kseq (a := c11) (b := c7) rfl (fun σ h => n7_eq k σ h G)).trans (by kernel_rfl)
def l5 {R : Type} (k : Nat) (G : KT2 R) : Nat → GV → GV → GV → GV → Heap → Option R
  | 0, _, _, _, _, _ => none
  | r + 1, v0, v1, v4, v5, h => n6 k (fun x v0 v1 v4 v5 h => kx x (l5 k G r v0 v1 v4 v5 h) (G x v1 v4 h)) v0 v1 v4 v5 h
theorem l5_eq {R : Type} (k : Nat) (G : KT2 R) : ∀ (r : Nat) (σ : GS) (h : Heap), kloop (fun σ h K => KC k 22 c6 σ h K) r σ h (Q2 G 1 4) = l5 k G r (σ 0) (σ 1) (σ 4) (σ 5) h
  | 0, _, _ => rfl
  | r + 1, σ, h => (kloop_eq (fun σ h => l5_eq k G r σ h)).trans (n6_eq k σ h (fun x v0 v1 v4 v5 h => kx x (l5 k G r v0 v1 v4 v5 h) (G x v1 v4 h)))
@[simp] def n5 (G : KT2 R) (v0 v1 v4 v5 : GV) (h : Heap) := l5 k G k v0 v1 v4 v5 h
theorem n5_eq (G : KT2 R) : KC k 22 c5 σ h (Q2 G 1 4) = W4 (n5 k G) 0 1 4 5 σ h := (kloopc_eq (a := c6) rfl).trans (l5_eq k G k σ h)
@[simp] def n4 (G : KT2 R) (v0 v1 v4 v5 : GV) (h : Heap) := n5 k (fun x v1 v4 h => kb 0 x fun x => G x v1 v4 h) v0 v1 v4 v5 h
theorem n4_eq (G : KT2 R) : KC k 22 c4 σ h (Q2 G 1 4) = W4 (n4 k G) 0 1 4 5 σ h := (kblock_eq (a := c5) rfl).trans (n5_eq k σ h (fun x v1 v4 h => kb 0 x fun x => G x v1 v4 h))
noncomputable def c12 := cL c3
@[simp] def n3 (G : KT2 R) (v0 v1 v4 : GV) (h : Heap) := n4 k G v0 v1 v4 (.int .i64 0) h
theorem n3_eq (G : KT2 R) : KC k 22 c3 σ h (Q2 G 1 4) = W3 (n3 k G) 0 1 4 σ h := (kseq (a := c12) (b := c4) rfl (fun σ h => n4_eq k σ h G)).trans (by kernel_rfl)
@[simp] def n1 (G : KT1 R) (v0 v1 v4 : GV) (h : Heap) := n3 k (fun x v1 v4 h => kx x (n2 k G v1 h) (G x v4 h)) v0 v1 v4 h
theorem n1_eq (G : KT1 R) : KC k 22 c1 σ h (Q1 G 4) = W3 (n1 k G) 0 1 4 σ h := (kseq (b := c2) rfl (fun σ h => n2_eq k σ h G)).trans (n3_eq k σ h (fun x v1 v4 h => kx x (n2 k G v1 h) (G x v4 h)))
noncomputable def c13 := cL c0
@[simp] def n0 (G : KT1 R) (v0 v1 : GV) (h : Heap) := n1 k G v0 v1 (.int .i64 0) h
theorem n0_eq (G : KT1 R) : KC k 22 c0 σ h (Q1 G 4) = W2 (n0 k G) 0 1 σ h := (kseq (a := c13) (b := c1) rfl (fun σ h => n1_eq k σ h G)).trans (by kernel_rfl)
def run {R : Type} (k : Nat) (a0 a1 : GV) (h : Heap) (fin : GV → Heap → Option R) : Option R := n0 k (fun x v4 h => kend x (fin v4 h)) a0 a1 h
theorem gives {k : Nat} {a0 a1 : GV} {v : GV} (e : run k a0 a1 [] finN = some v) : NN fn.laws_heldStringS [a0, a1] = some v := nω_of (by kernel_rfl) (((kfun_eq (nt := 22) (c := c0) (show PP.funcs[fn.laws_heldStringS]? = some Try.f161 by kernel_rfl) (by kernel_rfl) (by kernel_rfl) (fun x σ h => by cases x <;> kernel_rfl)).trans (n0_eq k _ [] _)).trans e)
end S.laws_heldStringS
namespace S.laws_szInt64S
noncomputable def c0 := bodyOf Try.f163
@[simp] def n0 {R : Type} (k : Nat) (G : KT1 R) (v0 v1 : GV) (h : Heap) := (klen v0).bind fun v7 => (kbin .sub v1 v7).bind fun v8 => (kbin .lss v8 (.int .i64 0)).bind fun v10 => kcond v10 (G .ret (.int .i64 (-1)) h) (G .ret v8 h)
theorem n0_eq (G : KT1 R) : KC k 12 c0 σ h (Q1 G 4) = W2 (n0 k G) 0 1 σ h := by kernel_rfl
def run {R : Type} (k : Nat) (a0 a1 : GV) (h : Heap) (fin : GV → Heap → Option R) : Option R := n0 k (fun x v4 h => kend x (fin v4 h)) a0 a1 h
theorem gives {k : Nat} {a0 a1 : GV} {v : GV} (e : run k a0 a1 [] finN = some v) : NN fn.laws_szInt64S [a0, a1] = some v := nω_of (by kernel_rfl) (((kfun_eq (nt := 12) (c := c0) (show PP.funcs[fn.laws_szInt64S]? = some Try.f163 by kernel_rfl) (by kernel_rfl) (by kernel_rfl) (fun x σ h => by cases x <;> kernel_rfl)).trans (n0_eq k _ [] _)).trans e)
end S.laws_szInt64S
namespace S.laws_heldInt64S
noncomputable def c0 := bodyOf Try.f164
noncomputable def c1 := cR c0
noncomputable def c2 := cR c1
@[simp] def n2 {R : Type} (k : Nat) (G : KT1 R) (v1 : GV) (h : Heap) := G .ret v1 h
theorem n2_eq (G : KT1 R) : KC k 21 c2 σ h (Q1 G 4) = n2 k G (σ 1) h := by kernel_rfl
noncomputable def c3 := cL c1
noncomputable def c4 := cR c3
noncomputable def c5 := cL c4
noncomputable def c6 := cL c5
noncomputable def c7 := cR c6
noncomputable def c8 := cR c7
@[simp] def n8 {R : Type} (k : Nat) (G : KT4 R) (v0 v1 v4 v5 : GV) (h : Heap) := (kbin .add v5 (.int .i64 1)).bind fun v11 => G .nrm v0 v1 v4 v11 h
theorem n8_eq (G : KT4 R) : KC k 21 c8 σ h (Q4 G 0 1 4 5) = W4 (n8 k G) 0 1 4 5 σ h := by kernel_rfl
noncomputable def c9 := cL c7
noncomputable def c10 := cL c9
@[simp] def n10 {R : Type} (k : Nat) (G : KT4 R) (v0 v1 v4 v5 : GV) (h : Heap) := (kia 1 v0 v5).bind fun v14 => (kload1 h v14).bind fun v15 => (kbin .neq v15 v1).bind fun v17 => kcond v17 (G .ret v0 v1 (.int .i64 (-1)) v5 h) ((kbin .add v1 (.int .i64 1)).bind fun v19 => G .nrm v0 v19 v4 v5 h)
theorem n10_eq (G : KT4 R) : KC k 21 c10 σ h (Q4 G 0 1 4 5) = W4 (n10 k G) 0 1 4 5 σ h := by kernel_rfl
@[simp] def n9 (G : KT4 R) (v0 v1 v4 v5 : GV) (h : Heap) := n10 k (fun x v0 v1 v4 v5 h => kb 1 x fun x => G x v0 v1 v4 v5 h) v0 v1 v4 v5 h
theorem n9_eq (G : KT4 R) : KC k 21 c9 σ h (Q4 G 0 1 4 5) = W4 (n9 k G) 0 1 4 5 σ h := (kblock_eq (a := c10) rfl).trans (n10_eq k σ h (fun x v0 v1 v4 v5 h => kb 1 x fun x => G x v0 v1 v4 v5 h))
@[simp] def n7 (G : KT4 R) (v0 v1 v4 v5 : GV) (h : Heap) := n9 k (fun x v0 v1 v4 v5 h => kx x (n8 k G v0 v1 v4 v5 h) (G x v0 v1 v4 v5 h)) v0 v1 v4 v5 h
theorem n7_eq (G : KT4 R) : KC k 21 c7 σ h (Q4 G 0 1 4 5) = W4 (n7 k G) 0 1 4 5 σ h := (kseq (b := c8) rfl (fun σ h => n8_eq k σ h G)).trans (n9_eq k σ h (fun x v0 v1 v4 v5 h => kx x (n8 k G v0 v1 v4 v5 h) (G x v0 v1 v4 v5 h)))
noncomputable def c11 := cL c6
@[simp] def n6 (G : KT4 R) (v0 v1 v4 v5 : GV) (h : Heap) := (klen v0).bind fun v8 => (kbin .lss v5 v8).bind fun v9 => kcond v9 (n7 k G v0 v1 v4 v5 h) (G (.ext 0) v0 v1 v4 v5 h)
theorem n6_eq (G : KT4 R) : KC k 21 c6 σ h (Q4 G 0 1 4 5) = W4 (n6 k G) 0 1 4 5 σ h := (kseq (a := c11) (b := c7) rfl (fun σ h => n7_eq k σ h G)).trans (by kernel_rfl)
def l5 {R : Type} (k : Nat) (G : KT2 R) : Nat → GV → GV → GV → GV → Heap → Option R
  | 0, _, _, _, _, _ => none
  | r + 1, v0, v1, v4, v5, h => n6 k (fun x v0 v1 v4 v5 h => kx x (l5 k G r v0 v1 v4 v5 h) (G x v1 v4 h)) v0 v1 v4 v5 h
theorem l5_eq {R : Type} (k : Nat) (G : KT2 R) : ∀ (r : Nat) (σ : GS) (h : Heap), kloop (fun σ h K => KC k 21 c6 σ h K) r σ h (Q2 G 1 4) = l5 k G r (σ 0) (σ 1) (σ 4) (σ 5) h
  | 0, _, _ => rfl
  | r + 1, σ, h => (kloop_eq (fun σ h => l5_eq k G r σ h)).trans (n6_eq k σ h (fun x v0 v1 v4 v5 h => kx x (l5 k G r v0 v1 v4 v5 h) (G x v1 v4 h)))
@[simp] def n5 (G : KT2 R) (v0 v1 v4 v5 : GV) (h : Heap) := l5 k G k v0 v1 v4 v5 h
theorem n5_eq (G : KT2 R) : KC k 21 c5 σ h (Q2 G 1 4) = W4 (n5 k G) 0 1 4 5 σ h := (kloopc_eq (a := c6) rfl).trans (l5_eq k G k σ h)
@[simp] def n4 (G : KT2 R) (v0 v1 v4 v5 : GV) (h : Heap) := n5 k (fun x v1 v4 h => kb 0 x fun x => G x v1 v4 h) v0 v1 v4 v5 h
theorem n4_eq (G : KT2 R) : KC k 21 c4 σ h (Q2 G 1 4) = W4 (n4 k G) 0 1 4 5 σ h := (kblock_eq (a := c5) rfl).trans (n5_eq k σ h (fun x v1 v4 h => kb 0 x fun x => G x v1 v4 h))
noncomputable def c12 := cL c3
@[simp] def n3 (G : KT2 R) (v0 v1 v4 : GV) (h : Heap) := n4 k G v0 v1 v4 (.int .i64 0) h
theorem n3_eq (G : KT2 R) : KC k 21 c3 σ h (Q2 G 1 4) = W3 (n3 k G) 0 1 4 σ h := (kseq (a := c12) (b := c4) rfl (fun σ h => n4_eq k σ h G)).trans (by kernel_rfl)
@[simp] def n1 (G : KT1 R) (v0 v1 v4 : GV) (h : Heap) := n3 k (fun x v1 v4 h => kx x (n2 k G v1 h) (G x v4 h)) v0 v1 v4 h
theorem n1_eq (G : KT1 R) : KC k 21 c1 σ h (Q1 G 4) = W3 (n1 k G) 0 1 4 σ h := (kseq (b := c2) rfl (fun σ h => n2_eq k σ h G)).trans (n3_eq k σ h (fun x v1 v4 h => kx x (n2 k G v1 h) (G x v4 h)))
noncomputable def c13 := cL c0
@[simp] def n0 (G : KT1 R) (v0 v1 : GV) (h : Heap) := n1 k G v0 v1 (.int .i64 0) h
theorem n0_eq (G : KT1 R) : KC k 21 c0 σ h (Q1 G 4) = W2 (n0 k G) 0 1 σ h := (kseq (a := c13) (b := c1) rfl (fun σ h => n1_eq k σ h G)).trans (by kernel_rfl)
def run {R : Type} (k : Nat) (a0 a1 : GV) (h : Heap) (fin : GV → Heap → Option R) : Option R := n0 k (fun x v4 h => kend x (fin v4 h)) a0 a1 h
theorem gives {k : Nat} {a0 a1 : GV} {v : GV} (e : run k a0 a1 [] finN = some v) : NN fn.laws_heldInt64S [a0, a1] = some v := nω_of (by kernel_rfl) (((kfun_eq (nt := 21) (c := c0) (show PP.funcs[fn.laws_heldInt64S]? = some Try.f164 by kernel_rfl) (by kernel_rfl) (by kernel_rfl) (fun x σ h => by cases x <;> kernel_rfl)).trans (n0_eq k _ [] _)).trans e)
end S.laws_heldInt64S
namespace S.laws_szServer
noncomputable def c0 := bodyOf Try.f189
@[simp] def n0 {R : Type} (k : Nat) (G : KT1 R) (v0 v1 : GV) (h : Heap) := kbox v0 h fun v2 h => (kfa 0 v2).bind fun v5 => (kload1 h v5).bind fun v6 => (kN NN fn.laws_szStringS [v6, v1] h).bind fun v8 => (kbin .lss v8 (.int .i64 0)).bind fun v10 => kcond v10 (G .ret (.int .i64 (-1)) h) (G .ret v8 h)
theorem n0_eq (G : KT1 R) : KC k 12 c0 σ h (Q1 G 4) = W2 (n0 k G) 0 1 σ h := by kernel_rfl
def run {R : Type} (k : Nat) (a0 a1 : GV) (h : Heap) (fin : GV → Heap → Option R) : Option R := n0 k (fun x v4 h => kend x (fin v4 h)) a0 a1 h
theorem gives {k : Nat} {a0 a1 : GV} {v : GV} (e : run k a0 a1 [] finN = some v) : NN fn.laws_szServer [a0, a1] = some v := nω_of (by kernel_rfl) (((kfun_eq (nt := 12) (c := c0) (show PP.funcs[fn.laws_szServer]? = some Try.f189 by kernel_rfl) (by kernel_rfl) (by kernel_rfl) (fun x σ h => by cases x <;> kernel_rfl)).trans (n0_eq k _ [] _)).trans e)
end S.laws_szServer
namespace S.laws_szStringS
noncomputable def c0 := bodyOf Try.f190
noncomputable def c1 := cR c0
noncomputable def c2 := cR c1
noncomputable def c3 := cR c2
noncomputable def c4 := cR c3
@[simp] def n4 {R : Type} (k : Nat) (G : KT1 R) (v1 : GV) (h : Heap) := G .ret v1 h
theorem n4_eq (G : KT1 R) : KC k 28 c4 σ h (Q1 G 4) = n4 k G (σ 1) h := by kernel_rfl
noncomputable def c5 := cL c3
noncomputable def c6 := cR c5
noncomputable def c7 := cL c6
noncomputable def c8 := cL c7
noncomputable def c9 := cR c8
noncomputable def c10 := cR c9
@[simp] def n10 {R : Type} (k : Nat) (G : KT4 R) (v0 v1 v4 v5 : GV) (h : Heap) := (kbin .add v5 (.int .i64 1)).bind fun v17 => G .nrm v0 v1 v4 v17 h
theorem n10_eq (G : KT4 R) : KC k 28 c10 σ h (Q4 G 0 1 4 5) = W4 (n10 k G) 0 1 4 5 σ h := by kernel_rfl
noncomputable def c11 := cL c9
noncomputable def c12 := cL c11
@[simp] def n12 {R : Type} (k : Nat) (G : KT4 R) (v0 v1 v4 v5 : GV) (h : Heap) := (kia 1 v0 v5).bind fun v21 => (kload1 h v21).bind fun v22 => (klenS v22).bind fun v23 => (kbin .sub v1 v23).bind fun v24 => (kbin .lss v24 (.int .i64 0)).bind fun v26 => kcond v26 (G .ret v0 v24 (.int .i64 (-1)) v5 h) (G .nrm v0 v24 v4 v5 h)
theorem n12_eq (G : KT4 R) : KC k 28 c12 σ h (Q4 G 0 1 4 5) = W4 (n12 k G) 0 1 4 5 σ h := by kernel_rfl
@[simp] def n11 (G : KT4 R) (v0 v1 v4 v5 : GV) (h : Heap) := n12 k (fun x v0 v1 v4 v5 h => kb 1 x fun x => G x v0 v1 v4 v5 h) v0 v1 v4 v5 h
theorem n11_eq (G : KT4 R) : KC k 28 c11 σ h (Q4 G 0 1 4 5) = W4 (n11 k G) 0 1 4 5 σ h := (kblock_eq (a := c12) rfl).trans (n12_eq k σ h (fun x v0 v1 v4 v5 h => kb 1 x fun x => G x v0 v1 v4 v5 h))
@[simp] def n9 (G : KT4 R) (v0 v1 v4 v5 : GV) (h : Heap) := n11 k (fun x v0 v1 v4 v5 h => kx x (n10 k G v0 v1 v4 v5 h) (G x v0 v1 v4 v5 h)) v0 v1 v4 v5 h
theorem n9_eq (G : KT4 R) : KC k 28 c9 σ h (Q4 G 0 1 4 5) = W4 (n9 k G) 0 1 4 5 σ h := (kseq (b := c10) rfl (fun σ h => n10_eq k σ h G)).trans (n11_eq k σ h (fun x v0 v1 v4 v5 h => kx x (n10 k G v0 v1 v4 v5 h) (G x v0 v1 v4 v5 h)))
noncomputable def c13 := cL c8
@[simp] def n8 (G : KT4 R) (v0 v1 v4 v5 : GV) (h : Heap) := (klen v0).bind fun v14 => (kbin .lss v5 v14).bind fun v15 => kcond v15 (n9 k G v0 v1 v4 v5 h) (G (.ext 0) v0 v1 v4 v5 h)
theorem n8_eq (G : KT4 R) : KC k 28 c8 σ h (Q4 G 0 1 4 5) = W4 (n8 k G) 0 1 4 5 σ h := (kseq (a := c13) (b := c9) rfl (fun σ h => n9_eq k σ h G)).trans (by kernel_rfl)
def l7 {R : Type} (k : Nat) (G : KT2 R) : Nat → GV → GV → GV → GV → Heap → Option R
  | 0, _, _, _, _, _ => none
  | r + 1, v0, v1, v4, v5, h => n8 k (fun x v0 v1 v4 v5 h => kx x (l7 k G r v0 v1 v4 v5 h) (G x v1 v4 h)) v0 v1 v4 v5 h
theorem l7_eq {R : Type} (k : Nat) (G : KT2 R) : ∀ (r : Nat) (σ : GS) (h : Heap), kloop (fun σ h K => KC k 28 c8 σ h K) r σ h (Q2 G 1 4) = l7 k G r (σ 0) (σ 1) (σ 4) (σ 5) h
  | 0, _, _ => rfl
  | r + 1, σ, h => (kloop_eq (fun σ h => l7_eq k G r σ h)).trans (n8_eq k σ h (fun x v0 v1 v4 v5 h => kx x (l7 k G r v0 v1 v4 v5 h) (G x v1 v4 h)))
@[simp] def n7 (G : KT2 R) (v0 v1 v4 v5 : GV) (h : Heap) := l7 k G k v0 v1 v4 v5 h
theorem n7_eq (G : KT2 R) : KC k 28 c7 σ h (Q2 G 1 4) = W4 (n7 k G) 0 1 4 5 σ h := (kloopc_eq (a := c8) rfl).trans (l7_eq k G k σ h)
@[simp] def n6 (G : KT2 R) (v0 v1 v4 v5 : GV) (h : Heap) := n7 k (fun x v1 v4 h => kb 0 x fun x => G x v1 v4 h) v0 v1 v4 v5 h
theorem n6_eq (G : KT2 R) : KC k 28 c6 σ h (Q2 G 1 4) = W4 (n6 k G) 0 1 4 5 σ h := (kblock_eq (a := c7) rfl).trans (n7_eq k σ h (fun x v1 v4 h => kb 0 x fun x => G x v1 v4 h))
noncomputable def c14 := cL c5
@[simp] def n5 (G : KT2 R) (v0 v1 v4 : GV) (h : Heap) := n6 k G v0 v1 v4 (.int .i64 0) h
theorem n5_eq (G : KT2 R) : KC k 28 c5 σ h (Q2 G 1 4) = W3 (n5 k G) 0 1 4 σ h := (kseq (a := c14) (b := c6) rfl (fun σ h => n6_eq k σ h G)).trans (by kernel_rfl)
@[simp] def n3 (G : KT1 R) (v0 v1 v4 : GV) (h : Heap) := n5 k (fun x v1 v4 h => kx x (n4 k G v1 h) (G x v4 h)) v0 v1 v4 h
theorem n3_eq (G : KT1 R) : KC k 28 c3 σ h (Q1 G 4) = W3 (n3 k G) 0 1 4 σ h := (kseq (b := c4) rfl (fun σ h => n4_eq k σ h G)).trans (n5_eq k σ h (fun x v1 v4 h => kx x (n4 k G v1 h) (G x v4 h)))
noncomputable def c15 := cL c2
@[simp] def n2 (G : KT1 R) (v0 v1 v4 : GV) (h : Heap) := (kbin .lss v1 (.int .i64 0)).bind fun v11 => kcond v11 (G .ret (.int .i64 (-1)) h) (n3 k G v0 v1 v4 h)
theorem n2_eq (G : KT1 R) : KC k 28 c2 σ h (Q1 G 4) = W3 (n2 k G) 0 1 4 σ h := (kseq (a := c15) (b := c3) rfl (fun σ h => n3_eq k σ h G)).trans (by kernel_rfl)
noncomputable def c16 := cL c1
@[simp] def n1 (G : KT1 R) (v0 v1 v4 : GV) (h : Heap) := (klen v0).bind fun v8 => (kbin .sub v1 v8).bind fun v9 => n2 k G v0 v9 v4 h
theorem n1_eq (G : KT1 R) : KC k 28 c1 σ h (Q1 G 4) = W3 (n1 k G) 0 1 4 σ h := (kseq (a := c16) (b := c2) rfl (fun σ h => n2_eq k σ h G)).trans (by kernel_rfl)
noncomputable def c17 := cL c0
@[simp] def n0 (G : KT1 R) (v0 v1 : GV) (h : Heap) := n1 k G v0 v1 (.int .i64 0) h
theorem n0_eq (G : KT1 R) : KC k 28 c0 σ h (Q1 G 4) = W2 (n0 k G) 0 1 σ h := (kseq (a := c17) (b := c1) rfl (fun σ h => n1_eq k σ h G)).trans (by kernel_rfl)
def run {R : Type} (k : Nat) (a0 a1 : GV) (h : Heap) (fin : GV → Heap → Option R) : Option R := n0 k (fun x v4 h => kend x (fin v4 h)) a0 a1 h
theorem gives {k : Nat} {a0 a1 : GV} {v : GV} (e : run k a0 a1 [] finN = some v) : NN fn.laws_szStringS [a0, a1] = some v := nω_of (by kernel_rfl) (((kfun_eq (nt := 28) (c := c0) (show PP.funcs[fn.laws_szStringS]? = some Try.f190 by kernel_rfl) (by kernel_rfl) (by kernel_rfl) (fun x σ h => by cases x <;> kernel_rfl)).trans (n0_eq k _ [] _)).trans e)
end S.laws_szStringS
namespace S.laws_toServer
noncomputable def c0 := bodyOf Try.f191
@[simp] def n0 {R : Type} (k : Nat) (G : KT1 R) (v0 : GV) (h : Heap) := kbox v0 h fun v1 h => kalloc [.nils, (.int .i64 0)] h fun v2 h => kalloc [.nils, (.int .i64 0)] h fun v3 h => (kfa 0 v1).bind fun v4 => (kload1 h v4).bind fun v5 => (kF false HH fn.laws_toStringS [v5] h).bind fun r => kr r fun v6 h => (kfa 0 v3).bind fun v7 => (kstore 1 h v7 v6).bind fun h => (kfa 1 v1).bind fun v8 => (kload1 h v8).bind fun v9 => (kfa 1 v3).bind fun v10 => (kstore 1 h v10 v9).bind fun h => (kloadA 2 h v3).bind fun v11 => (kstore 2 h v2 v11).bind fun h => G .ret v2 h
theorem n0_eq (G : KT1 R) : KC k 12 c0 σ h (Q1 G 2) = n0 k G (σ 0) h := by kernel_rfl
def run {R : Type} (k : Nat) (a0 : GV) (h : Heap) (fin : GV → Heap → Option R) : Option R := n0 k (fun x v2 h => kend x ((kloadA 2 h v2).bind fun w2 => fin w2 h)) a0 h
theorem gives {k : Nat} {a0 : GV} {b : Nat} {q : GV × List (List GV)} (e : run k a0 [] (finO b) = some q) : OO fn.laws_toServer [a0] b = some q := oω_of (((kfun_eq (nt := 12) (c := c0) (show PP.funcs[fn.laws_toServer]? = some Try.f191 by kernel_rfl) (by kernel_rfl) (by kernel_rfl) (fun x σ h => by cases x <;> kernel_rfl)).trans (n0_eq k _ [] _)).trans e)
end S.laws_toServer
namespace S.laws_toStringS
noncomputable def c0 := bodyOf Try.f192
noncomputable def c1 := cR c0
noncomputable def c2 := cR c1
noncomputable def c3 := cR c2
@[simp] def n3 {R : Type} (k : Nat) (G : KT1 R) (v3 : GV) (h : Heap) := G .ret v3 h
theorem n3_eq (G : KT1 R) : KC k 22 c3 σ h (Q1 G 2) = n3 k G (σ 3) h := by kernel_rfl
noncomputable def c4 := cL c2
noncomputable def c5 := cR c4
noncomputable def c6 := cL c5
noncomputable def c7 := cL c6
noncomputable def c8 := cR c7
noncomputable def c9 := cR c8
@[simp] def n9 {R : Type} (k : Nat) (G : KT4 R) (v0 v2 v3 v4 : GV) (h : Heap) := (kbin .add v4 (.int .i64 1)).bind fun v13 => G .nrm v0 v2 v3 v13 h
theorem n9_eq (G : KT4 R) : KC k 22 c9 σ h (Q4 G 0 2 3 4) = W4 (n9 k G) 0 2 3 4 σ h := by kernel_rfl
noncomputable def c10 := cL c8
noncomputable def c11 := cL c10
@[simp] def n11 {R : Type} (k : Nat) (G : KT4 R) (v0 v2 v3 v4 : GV) (h : Heap) := (kia 1 v0 v4).bind fun v18 => (kload1 h v18).bind fun v19 => (kia 1 v3 v4).bind fun v20 => (kstore 1 h v20 v19).bind fun h => G .nrm v0 v2 v3 v4 h
theorem n11_eq (G : KT4 R) : KC k 22 c11 σ h (Q4 G 0 2 3 4) = W4 (n11 k G) 0 2 3 4 σ h := by kernel_rfl
@[simp] def n10 (G : KT4 R) (v0 v2 v3 v4 : GV) (h : Heap) := n11 k (fun x v0 v2 v3 v4 h => kb 1 x fun x => G x v0 v2 v3 v4 h) v0 v2 v3 v4 h
theorem n10_eq (G : KT4 R) : KC k 22 c10 σ h (Q4 G 0 2 3 4) = W4 (n10 k G) 0 2 3 4 σ h := (kblock_eq (a := c11) rfl).trans (n11_eq k σ h (fun x v0 v2 v3 v4 h => kb 1 x fun x => G x v0 v2 v3 v4 h))
@[simp] def n8 (G : KT4 R) (v0 v2 v3 v4 : GV) (h : Heap) := n10 k (fun x v0 v2 v3 v4 h => kx x (n9 k G v0 v2 v3 v4 h) (G x v0 v2 v3 v4 h)) v0 v2 v3 v4 h
theorem n8_eq (G : KT4 R) : KC k 22 c8 σ h (Q4 G 0 2 3 4) = W4 (n8 k G) 0 2 3 4 σ h := (kseq (b := c9) rfl (fun σ h => n9_eq k σ h G)).trans (n10_eq k σ h (fun x v0 v2 v3 v4 h => kx x (n9 k G v0 v2 v3 v4 h) (G x v0 v2 v3 v4 h)))
noncomputable def c12 := cL c7
@[simp] def n7 (G : KT4 R) (v0 v2 v3 v4 : GV) (h : Heap) := (klen v0).bind fun v10 => (kbin .lss v4 v10).bind fun v11 => kcond v11 (n8 k G v0 v2 v3 v4 h) (G (.ext 0) v0 v2 v3 v4 h)
theorem n7_eq (G : KT4 R) : KC k 22 c7 σ h (Q4 G 0 2 3 4) = W4 (n7 k G) 0 2 3 4 σ h := (kseq (a := c12) (b := c8) rfl (fun σ h => n8_eq k σ h G)).trans (by kernel_rfl)
def l6 {R : Type} (k : Nat) (G : KT2 R) : Nat → GV → GV → GV → GV → Heap → Option R
  | 0, _, _, _, _, _ => none
  | r + 1, v0, v2, v3, v4, h => n7 k (fun x v0 v2 v3 v4 h => kx x (l6 k G r v0 v2 v3 v4 h) (G x v2 v3 h)) v0 v2 v3 v4 h
theorem l6_eq {R : Type} (k : Nat) (G : KT2 R) : ∀ (r : Nat) (σ : GS) (h : Heap), kloop (fun σ h K => KC k 22 c7 σ h K) r σ h (Q2 G 2 3) = l6 k G r (σ 0) (σ 2) (σ 3) (σ 4) h
  | 0, _, _ => rfl
  | r + 1, σ, h => (kloop_eq (fun σ h => l6_eq k G r σ h)).trans (n7_eq k σ h (fun x v0 v2 v3 v4 h => kx x (l6 k G r v0 v2 v3 v4 h) (G x v2 v3 h)))
@[simp] def n6 (G : KT2 R) (v0 v2 v3 v4 : GV) (h : Heap) := l6 k G k v0 v2 v3 v4 h
theorem n6_eq (G : KT2 R) : KC k 22 c6 σ h (Q2 G 2 3) = W4 (n6 k G) 0 2 3 4 σ h := (kloopc_eq (a := c7) rfl).trans (l6_eq k G k σ h)
@[simp] def n5 (G : KT2 R) (v0 v2 v3 v4 : GV) (h : Heap) := n6 k (fun x v2 v3 h => kb 0 x fun x => G x v2 v3 h) v0 v2 v3 v4 h
theorem n5_eq (G : KT2 R) : KC k 22 c5 σ h (Q2 G 2 3) = W4 (n5 k G) 0 2 3 4 σ h := (kblock_eq (a := c6) rfl).trans (n6_eq k σ h (fun x v2 v3 h => kb 0 x fun x => G x v2 v3 h))
noncomputable def c13 := cL c4
@[simp] def n4 (G : KT2 R) (v0 v2 v3 : GV) (h : Heap) := n5 k G v0 v2 v3 (.int .i64 0) h
theorem n4_eq (G : KT2 R) : KC k 22 c4 σ h (Q2 G 2 3) = W3 (n4 k G) 0 2 3 σ h := (kseq (a := c13) (b := c5) rfl (fun σ h => n5_eq k σ h G)).trans (by kernel_rfl)
@[simp] def n2 (G : KT1 R) (v0 v2 v3 : GV) (h : Heap) := n4 k (fun x v2 v3 h => kx x (n3 k G v3 h) (G x v2 h)) v0 v2 v3 h
theorem n2_eq (G : KT1 R) : KC k 22 c2 σ h (Q1 G 2) = W3 (n2 k G) 0 2 3 σ h := (kseq (b := c3) rfl (fun σ h => n3_eq k σ h G)).trans (n4_eq k σ h (fun x v2 v3 h => kx x (n3 k G v3 h) (G x v2 h)))
noncomputable def c14 := cL c1
@[simp] def n1 (G : KT1 R) (v0 v2 : GV) (h : Heap) := (klen v0).bind fun v6 => (kmake [(.str { data := #[] })] 1 16 v6 v6 h).bind fun r => kr r fun v7 h => n2 k G v0 v2 v7 h
theorem n1_eq (G : KT1 R) : KC k 22 c1 σ h (Q1 G 2) = W2 (n1 k G) 0 2 σ h := (kseq (a := c14) (b := c2) rfl (fun σ h => n2_eq k σ h G)).trans (by kernel_rfl)
noncomputable def c15 := cL c0
@[simp] def n0 (G : KT1 R) (v0 : GV) (h : Heap) := n1 k G v0 .nils h
theorem n0_eq (G : KT1 R) : KC k 22 c0 σ h (Q1 G 2) = n0 k G (σ 0) h := (kseq (a := c15) (b := c1) rfl (fun σ h => n1_eq k σ h G)).trans (by kernel_rfl)
def run {R : Type} (k : Nat) (a0 : GV) (h : Heap) (fin : GV → Heap → Option R) : Option R := n0 k (fun x v2 h => kend x (fin v2 h)) a0 h
theorem gives {k : Nat} {a0 : GV} {b : Nat} {q : GV × List (List GV)} (e : run k a0 [] (finO b) = some q) : OO fn.laws_toStringS [a0] b = some q := oω_of (((kfun_eq (nt := 22) (c := c0) (show PP.funcs[fn.laws_toStringS]? = some Try.f192 by kernel_rfl) (by kernel_rfl) (by kernel_rfl) (fun x σ h => by cases x <;> kernel_rfl)).trans (n0_eq k _ [] _)).trans e)
end S.laws_toStringS
namespace S.laws_eqServer
noncomputable def c0 := bodyOf Try.f197
@[simp] def n0 {R : Type} (k : Nat) (G : KT1 R) (v0 v1 : GV) (h : Heap) := kbox v0 h fun v2 h => kbox v1 h fun v3 h => (kfa 0 v2).bind fun v5 => (kload1 h v5).bind fun v6 => (kfa 0 v3).bind fun v7 => (kload1 h v7).bind fun v8 => (kN NN fn.laws_eqStringS [v6, v8] h).bind fun v9 => (kun .not v9).bind fun v10 => kcond v10 (G .ret (.bool false) h) ((kfa 1 v2).bind fun v11 => (kload1 h v11).bind fun v12 => (kfa 1 v3).bind fun v13 => (kload1 h v13).bind fun v14 => (kbin .neq v12 v14).bind fun v15 => kcond v15 (G .ret (.bool false) h) (G .ret (.bool true) h))
theorem n0_eq (G : KT1 R) : KC k 16 c0 σ h (Q1 G 4) = W2 (n0 k G) 0 1 σ h := by kernel_rfl
def run {R : Type} (k : Nat) (a0 a1 : GV) (h : Heap) (fin : GV → Heap → Option R) : Option R := n0 k (fun x v4 h => kend x (fin v4 h)) a0 a1 h
theorem gives {k : Nat} {a0 a1 : GV} {v : GV} (e : run k a0 a1 [] finN = some v) : NN fn.laws_eqServer [a0, a1] = some v := nω_of (by kernel_rfl) (((kfun_eq (nt := 16) (c := c0) (show PP.funcs[fn.laws_eqServer]? = some Try.f197 by kernel_rfl) (by kernel_rfl) (by kernel_rfl) (fun x σ h => by cases x <;> kernel_rfl)).trans (n0_eq k _ [] _)).trans e)
end S.laws_eqServer
namespace S.laws_markText
noncomputable def c0 := bodyOf Try.f218
noncomputable def c1 := cR c0
noncomputable def c2 := cR c1
noncomputable def c3 := cR c2
noncomputable def c4 := cR c3
@[simp] def n4 {R : Type} (k : Nat) (G : KT1 R) (v3 : GV) (h : Heap) := (kbin .add (.str { data := #[109] }) v3).bind fun v19 => G .ret v19 h
theorem n4_eq (G : KT1 R) : KC k 20 c4 σ h (Q1 G 2) = n4 k G (σ 3) h := by kernel_rfl
noncomputable def c5 := cL c3
noncomputable def c6 := cL c5
noncomputable def c7 := cL c6
noncomputable def c8 := cR c7
noncomputable def c9 := cL c8
@[simp] def n9 {R : Type} (k : Nat) (G : KT3 R) (v0 v2 v3 : GV) (h : Heap) := (kbin .rem v0 (.int .i64 10)).bind fun v9 => (kbin .add (.int .i64 48) v9).bind fun v10 => (kconvI .u8 v10).bind fun v11 => (gfill (fun i => some (i * 1, 1)) (zeros [(.int .u8 0)] 1) [(0, v11)]).bind fun c => kbs 1 1 c h fun v12 h => (kbstr h v12).bind fun v13 => (kbin .add v13 v3).bind fun v15 => (kbin .quo v0 (.int .i64 10)).bind fun v17 => G .nrm v17 v2 v15 h
theorem n9_eq (G : KT3 R) : KC k 20 c9 σ h (Q3 G 0 2 3) = W3 (n9 k G) 0 2 3 σ h := by kernel_rfl
@[simp] def n8 (G : KT3 R) (v0 v2 v3 : GV) (h : Heap) := n9 k (fun x v0 v2 v3 h => kb 1 x fun x => G x v0 v2 v3 h) v0 v2 v3 h
theorem n8_eq (G : KT3 R) : KC k 20 c8 σ h (Q3 G 0 2 3) = W3 (n8 k G) 0 2 3 σ h := (kblock_eq (a := c9) rfl).trans (n9_eq k σ h (fun x v0 v2 v3 h => kb 1 x fun x => G x v0 v2 v3 h))
noncomputable def c10 := cL c7
@[simp] def n7 (G : KT3 R) (v0 v2 v3 : GV) (h : Heap) := (kbin .gtr v0 (.int .i64 0)).bind fun v7 => kcond v7 (n8 k G v0 v2 v3 h) (G (.ext 0) v0 v2 v3 h)
theorem n7_eq (G : KT3 R) : KC k 20 c7 σ h (Q3 G 0 2 3) = W3 (n7 k G) 0 2 3 σ h := (kseq (a := c10) (b := c8) rfl (fun σ h => n8_eq k σ h G)).trans (by kernel_rfl)
def l6 {R : Type} (k : Nat) (G : KT2 R) : Nat → GV → GV → GV → Heap → Option R
  | 0, _, _, _, _ => none
  | r + 1, v0, v2, v3, h => n7 k (fun x v0 v2 v3 h => kx x (l6 k G r v0 v2 v3 h) (G x v2 v3 h)) v0 v2 v3 h
theorem l6_eq {R : Type} (k : Nat) (G : KT2 R) : ∀ (r : Nat) (σ : GS) (h : Heap), kloop (fun σ h K => KC k 20 c7 σ h K) r σ h (Q2 G 2 3) = l6 k G r (σ 0) (σ 2) (σ 3) h
  | 0, _, _ => rfl
  | r + 1, σ, h => (kloop_eq (fun σ h => l6_eq k G r σ h)).trans (n7_eq k σ h (fun x v0 v2 v3 h => kx x (l6 k G r v0 v2 v3 h) (G x v2 v3 h)))
@[simp] def n6 (G : KT2 R) (v0 v2 v3 : GV) (h : Heap) := l6 k G k v0 v2 v3 h
theorem n6_eq (G : KT2 R) : KC k 20 c6 σ h (Q2 G 2 3) = W3 (n6 k G) 0 2 3 σ h := (kloopc_eq (a := c7) rfl).trans (l6_eq k G k σ h)
@[simp] def n5 (G : KT2 R) (v0 v2 v3 : GV) (h : Heap) := n6 k (fun x v2 v3 h => kb 0 x fun x => G x v2 v3 h) v0 v2 v3 h
theorem n5_eq (G : KT2 R) : KC k 20 c5 σ h (Q2 G 2 3) = W3 (n5 k G) 0 2 3 σ h := (kblock_eq (a := c6) rfl).trans (n6_eq k σ h (fun x v2 v3 h => kb 0 x fun x => G x v2 v3 h))
@[simp] def n3 (G : KT1 R) (v0 v2 v3 : GV) (h : Heap) := n5 k (fun x v2 v3 h => kx x (n4 k G v3 h) (G x v2 h)) v0 v2 v3 h
theorem n3_eq (G : KT1 R) : KC k 20 c3 σ h (Q1 G 2) = W3 (n3 k G) 0 2 3 σ h := (kseq (b := c4) rfl (fun σ h => n4_eq k σ h G)).trans (n5_eq k σ h (fun x v2 v3 h => kx x (n4 k G v3 h) (G x v2 h)))
noncomputable def c11 := cL c2
@[simp] def n2 (G : KT1 R) (v0 v2 : GV) (h : Heap) := n3 k G v0 v2 (.str { data := #[] }) h
theorem n2_eq (G : KT1 R) : KC k 20 c2 σ h (Q1 G 2) = W2 (n2 k G) 0 2 σ h := (kseq (a := c11) (b := c3) rfl (fun σ h => n3_eq k σ h G)).trans (by kernel_rfl)
noncomputable def c12 := cL c1
@[simp] def n1 (G : KT1 R) (v0 v2 : GV) (h : Heap) := (kbin .leq v0 (.int .i64 0)).bind fun v5 => kcond v5 (G .ret (.str { data := #[109, 48] }) h) (n2 k G v0 v2 h)
theorem n1_eq (G : KT1 R) : KC k 20 c1 σ h (Q1 G 2) = W2 (n1 k G) 0 2 σ h := (kseq (a := c12) (b := c2) rfl (fun σ h => n2_eq k σ h G)).trans (by kernel_rfl)
noncomputable def c13 := cL c0
@[simp] def n0 (G : KT1 R) (v0 : GV) (h : Heap) := n1 k G v0 (.str { data := #[] }) h
theorem n0_eq (G : KT1 R) : KC k 20 c0 σ h (Q1 G 2) = n0 k G (σ 0) h := (kseq (a := c13) (b := c1) rfl (fun σ h => n1_eq k σ h G)).trans (by kernel_rfl)
def run {R : Type} (k : Nat) (a0 : GV) (h : Heap) (fin : GV → Heap → Option R) : Option R := n0 k (fun x v2 h => kend x (fin v2 h)) a0 h
theorem gives {k : Nat} {a0 : GV} {v : GV} (e : run k a0 [] finN = some v) : NN fn.laws_markText [a0] = some v := nω_of (by kernel_rfl) (((kfun_eq (nt := 20) (c := c0) (show PP.funcs[fn.laws_markText]? = some Try.f218 by kernel_rfl) (by kernel_rfl) (by kernel_rfl) (fun x σ h => by cases x <;> kernel_rfl)).trans (n0_eq k _ [] _)).trans e)
end S.laws_markText
end
end Go.Proofs.Ytlbnioapepelnaa.G
