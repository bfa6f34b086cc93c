/- What these functions do, told for open values, out of the machine with continuations. Printed by a program of this session. -/
import Derived.Test.YtlbnioapepelnaaZ93f7b1bc
import Derived.KernelRfl
set_option linter.unusedVariables false
set_option maxRecDepth 100000
namespace Go.Proofs.Ytlbnioapepelnaa.G
open Go.RowKit
noncomputable section
variable {R : Type} (k : Nat) (σ : GS) (h : Heap)
namespace S.spec_l1New
noncomputable def c0 := bodyOf Try.f127
noncomputable def c1 := cR c0
noncomputable def c2 := cR c1
noncomputable def c3 := cR c2
@[simp] def n3 {R : Type} (k : Nat) (G : KT1 R) (v0 v3 : GV) (h : Heap) := (gfill (fun i => [(0, 1), (1, 1), (2, 1)][i]?) [.nils, (.int .i64 0), (.int .i64 0)] [(0, v0), (2, v3)]).bind fun c => kagg c h fun v26 h => kbox v26 h fun v27 h => G .ret v27 h
theorem n3_eq (G : KT1 R) : KC k 28 c3 σ h (Q1 G 2) = W2 (n3 k G) 0 3 σ h := by kernel_rfl
noncomputable def c4 := cL c2
noncomputable def c5 := cR c4
noncomputable def c6 := cL c5
noncomputable def c7 := cL c6
noncomputable def c8 := cR c7
noncomputable def c9 := cR c8
@[simp] def n9 {R : Type} (k : Nat) (G : KT4 R) (v0 v2 v3 v4 : GV) (h : Heap) := (kbin .add v4 (.int .i64 1)).bind fun v13 => G .nrm v0 v2 v3 v13 h
theorem n9_eq (G : KT4 R) : KC k 28 c9 σ h (Q4 G 0 2 3 4) = W4 (n9 k G) 0 2 3 4 σ h := by kernel_rfl
noncomputable def c10 := cL c8
noncomputable def c11 := cL c10
@[simp] def n11 {R : Type} (k : Nat) (G : KT4 R) (v0 v2 v3 v4 : GV) (h : Heap) := (kbin .mul v3 (.int .i64 137)).bind fun v15 => (kia 1 v0 v4).bind fun v18 => (kload1 h v18).bind fun v19 => (kconvI .i64 v19).bind fun v20 => (kbin .add v15 v20).bind fun v21 => (kbin .add v21 (.int .i64 11)).bind fun v22 => (kbin .and v22 (.int .i64 1073741823)).bind fun v23 => G .nrm v0 v2 v23 v4 h
theorem n11_eq (G : KT4 R) : KC k 28 c11 σ h (Q4 G 0 2 3 4) = W4 (n11 k G) 0 2 3 4 σ h := by kernel_rfl
@[simp] def n10 (G : KT4 R) (v0 v2 v3 v4 : GV) (h : Heap) := n11 k (fun x v0 v2 v3 v4 h => kb 1 x fun x => G x v0 v2 v3 v4 h) v0 v2 v3 v4 h
theorem n10_eq (G : KT4 R) : KC k 28 c10 σ h (Q4 G 0 2 3 4) = W4 (n10 k G) 0 2 3 4 σ h := (kblock_eq (a := c11) rfl).trans (n11_eq k σ h (fun x v0 v2 v3 v4 h => kb 1 x fun x => G x v0 v2 v3 v4 h))
@[simp] def n8 (G : KT4 R) (v0 v2 v3 v4 : GV) (h : Heap) := n10 k (fun x v0 v2 v3 v4 h => kx x (n9 k G v0 v2 v3 v4 h) (G x v0 v2 v3 v4 h)) v0 v2 v3 v4 h
theorem n8_eq (G : KT4 R) : KC k 28 c8 σ h (Q4 G 0 2 3 4) = W4 (n8 k G) 0 2 3 4 σ h := (kseq (b := c9) rfl (fun σ h => n9_eq k σ h G)).trans (n10_eq k σ h (fun x v0 v2 v3 v4 h => kx x (n9 k G v0 v2 v3 v4 h) (G x v0 v2 v3 v4 h)))
noncomputable def c12 := cL c7
@[simp] def n7 (G : KT4 R) (v0 v2 v3 v4 : GV) (h : Heap) := (klen v0).bind fun v10 => (kbin .lss v4 v10).bind fun v11 => kcond v11 (n8 k G v0 v2 v3 v4 h) (G (.ext 0) v0 v2 v3 v4 h)
theorem n7_eq (G : KT4 R) : KC k 28 c7 σ h (Q4 G 0 2 3 4) = W4 (n7 k G) 0 2 3 4 σ h := (kseq (a := c12) (b := c8) rfl (fun σ h => n8_eq k σ h G)).trans (by kernel_rfl)
def l6 {R : Type} (k : Nat) (G : KT3 R) : Nat → GV → GV → GV → GV → Heap → Option R
  | 0, _, _, _, _, _ => none
  | r + 1, v0, v2, v3, v4, h => n7 k (fun x v0 v2 v3 v4 h => kx x (l6 k G r v0 v2 v3 v4 h) (G x v0 v2 v3 h)) v0 v2 v3 v4 h
theorem l6_eq {R : Type} (k : Nat) (G : KT3 R) : ∀ (r : Nat) (σ : GS) (h : Heap), kloop (fun σ h K => KC k 28 c7 σ h K) r σ h (Q3 G 0 2 3) = l6 k G r (σ 0) (σ 2) (σ 3) (σ 4) h
  | 0, _, _ => rfl
  | r + 1, σ, h => (kloop_eq (fun σ h => l6_eq k G r σ h)).trans (n7_eq k σ h (fun x v0 v2 v3 v4 h => kx x (l6 k G r v0 v2 v3 v4 h) (G x v0 v2 v3 h)))
@[simp] def n6 (G : KT3 R) (v0 v2 v3 v4 : GV) (h : Heap) := l6 k G k v0 v2 v3 v4 h
theorem n6_eq (G : KT3 R) : KC k 28 c6 σ h (Q3 G 0 2 3) = W4 (n6 k G) 0 2 3 4 σ h := (kloopc_eq (a := c7) rfl).trans (l6_eq k G k σ h)
@[simp] def n5 (G : KT3 R) (v0 v2 v3 v4 : GV) (h : Heap) := n6 k (fun x v0 v2 v3 h => kb 0 x fun x => G x v0 v2 v3 h) v0 v2 v3 v4 h
theorem n5_eq (G : KT3 R) : KC k 28 c5 σ h (Q3 G 0 2 3) = W4 (n5 k G) 0 2 3 4 σ h := (kblock_eq (a := c6) rfl).trans (n6_eq k σ h (fun x v0 v2 v3 h => kb 0 x fun x => G x v0 v2 v3 h))
noncomputable def c13 := cL c4
@[simp] def n4 (G : KT3 R) (v0 v2 v3 : GV) (h : Heap) := n5 k G v0 v2 v3 (.int .i64 0) h
theorem n4_eq (G : KT3 R) : KC k 28 c4 σ h (Q3 G 0 2 3) = W3 (n4 k G) 0 2 3 σ h := (kseq (a := c13) (b := c5) rfl (fun σ h => n5_eq k σ h G)).trans (by kernel_rfl)
@[simp] def n2 (G : KT1 R) (v0 v2 v3 : GV) (h : Heap) := n4 k (fun x v0 v2 v3 h => kx x (n3 k G v0 v3 h) (G x v2 h)) v0 v2 v3 h
theorem n2_eq (G : KT1 R) : KC k 28 c2 σ h (Q1 G 2) = W3 (n2 k G) 0 2 3 σ h := (kseq (b := c3) rfl (fun σ h => n3_eq k σ h G)).trans (n4_eq k σ h (fun x v0 v2 v3 h => kx x (n3 k G v0 v3 h) (G x v2 h)))
noncomputable def c14 := cL c1
@[simp] def n1 (G : KT1 R) (v0 v2 : GV) (h : Heap) := (klen v0).bind fun v6 => (kbin .add (.int .i64 110017) v6).bind fun v7 => n2 k G v0 v2 v7 h
theorem n1_eq (G : KT1 R) : KC k 28 c1 σ h (Q1 G 2) = W2 (n1 k G) 0 2 σ h := (kseq (a := c14) (b := c2) rfl (fun σ h => n2_eq k σ h G)).trans (by kernel_rfl)
noncomputable def c15 := cL c0
@[simp] def n0 (G : KT1 R) (v0 : GV) (h : Heap) := n1 k G v0 .nilp h
theorem n0_eq (G : KT1 R) : KC k 28 c0 σ h (Q1 G 2) = n0 k G (σ 0) h := (kseq (a := c15) (b := c1) rfl (fun σ h => n1_eq k σ h G)).trans (by kernel_rfl)
def run {R : Type} (k : Nat) (a0 : GV) (h : Heap) (fin : GV → Heap → Option R) : Option R := n0 k (fun x v2 h => kend x (fin v2 h)) a0 h
theorem gives {k : Nat} {a0 : GV} {h : Heap} {r : GV × Heap} (e : run k a0 h finH = some r) : HH fn.spec_l1New [a0] h = some r := kω_of (((kfun_eq (nt := 28) (c := c0) (show PP.funcs[fn.spec_l1New]? = some Try.f127 by kernel_rfl) (by kernel_rfl) (by kernel_rfl) (fun x σ h => by cases x <;> kernel_rfl)).trans (n0_eq k _ h _)).trans e)
end S.spec_l1New
namespace S.spec_l1Once
noncomputable def c0 := bodyOf Try.f129
@[simp] def n0 {R : Type} (k : Nat) (G : KT1 R) (v0 v1 : GV) (h : Heap) := (HH fn.spec_l1Below [v0, v1] h).bind fun r => kr r fun v7 h => (kbin .eql v7 (.int .i64 0)).bind fun v8 => G .ret v8 h
theorem n0_eq (G : KT1 R) : KC k 9 c0 σ h (Q1 G 4) = W2 (n0 k G) 0 1 σ h := by kernel_rfl
def run {R : Type} (k : Nat) (a0 a1 : GV) (h : Heap) (fin : GV → Heap → Option R) : Option R := n0 k (fun x v4 h => kend x (fin v4 h)) a0 a1 h
theorem gives {k : Nat} {a0 a1 : GV} {h : Heap} {r : GV × Heap} (e : run k a0 a1 h finH = some r) : HH fn.spec_l1Once [a0, a1] h = some r := kω_of (((kfun_eq (nt := 9) (c := c0) (show PP.funcs[fn.spec_l1Once]? = some Try.f129 by kernel_rfl) (by kernel_rfl) (by kernel_rfl) (fun x σ h => by cases x <;> kernel_rfl)).trans (n0_eq k _ h _)).trans e)
end S.spec_l1Once
namespace S.spec_l1Below
noncomputable def c0 := bodyOf Try.f130
@[simp] def n0 {R : Type} (k : Nat) (G : KT1 R) (v0 v1 : GV) (h : Heap) := (kbin .leq v1 (.int .i64 0)).bind fun v10 => kcond v10 (G .ret (.int .i64 0) h) ((kbin .leq v1 (.int .i64 256)).bind fun v12 => kcond v12 ((HH fn.spec_l1Byte [v0] h).bind fun r => kr r fun v14 h => (kbin .rem v14 v1).bind fun v16 => G .ret v16 h) ((HH fn.spec_l1Byte [v0] h).bind fun r => kr r fun v18 h => (HH fn.spec_l1Byte [v0] h).bind fun r => kr r fun v20 h => (HH fn.spec_l1Byte [v0] h).bind fun r => kr r fun v22 h => (HH fn.spec_l1Byte [v0] h).bind fun r => kr r fun v24 h => (kbin .mul v18 (.int .i64 16777216)).bind fun v26 => (kbin .mul v20 (.int .i64 65536)).bind fun v28 => (kbin .add v26 v28).bind fun v29 => (kbin .mul v22 (.int .i64 256)).bind fun v31 => (kbin .add v29 v31).bind fun v32 => (kbin .add v32 v24).bind fun v34 => (kbin .rem v34 v1).bind fun v36 => G .ret v36 h))
theorem n0_eq (G : KT1 R) : KC k 37 c0 σ h (Q1 G 4) = W2 (n0 k G) 0 1 σ h := by kernel_rfl
def run {R : Type} (k : Nat) (a0 a1 : GV) (h : Heap) (fin : GV → Heap → Option R) : Option R := n0 k (fun x v4 h => kend x (fin v4 h)) a0 a1 h
theorem gives {k : Nat} {a0 a1 : GV} {h : Heap} {r : GV × Heap} (e : run k a0 a1 h finH = some r) : HH fn.spec_l1Below [a0, a1] h = some r := kω_of (((kfun_eq (nt := 37) (c := c0) (show PP.funcs[fn.spec_l1Below]? = some Try.f130 by kernel_rfl) (by kernel_rfl) (by kernel_rfl) (fun x σ h => by cases x <;> kernel_rfl)).trans (n0_eq k _ h _)).trans e)
end S.spec_l1Below
namespace S.spec_l1From
noncomputable def c0 := bodyOf Try.f132
@[simp] def n0 {R : Type} (k : Nat) (G : KT1 R) (v0 v1 v2 : GV) (h : Heap) := (kbin .sub v2 v1).bind fun v11 => (kbin .add v11 (.int .i64 1)).bind fun v12 => (HH fn.spec_l1Below [v0, v12] h).bind fun r => kr r fun v13 h => (kbin .add v1 v13).bind fun v14 => G .ret v14 h
theorem n0_eq (G : KT1 R) : KC k 15 c0 σ h (Q1 G 6) = W3 (n0 k G) 0 1 2 σ h := by kernel_rfl
def run {R : Type} (k : Nat) (a0 a1 a2 : GV) (h : Heap) (fin : GV → Heap → Option R) : Option R := n0 k (fun x v6 h => kend x (fin v6 h)) a0 a1 a2 h
theorem gives {k : Nat} {a0 a1 a2 : GV} {h : Heap} {r : GV × Heap} (e : run k a0 a1 a2 h finH = some r) : HH fn.spec_l1From [a0, a1, a2] h = some r := kω_of (((kfun_eq (nt := 15) (c := c0) (show PP.funcs[fn.spec_l1From]? = some Try.f132 by kernel_rfl) (by kernel_rfl) (by kernel_rfl) (fun x σ h => by cases x <;> kernel_rfl)).trans (n0_eq k _ h _)).trans e)
end S.spec_l1From
namespace S.spec_l1Byte
noncomputable def c0 := bodyOf Try.f199
noncomputable def c1 := cR c0
noncomputable def c2 := cR c1
noncomputable def c3 := cR c2
noncomputable def c4 := cR c3
@[simp] def n4 {R : Type} (k : Nat) (G : KT1 R) (v3 : GV) (h : Heap) := G .ret v3 h
theorem n4_eq (G : KT1 R) : KC k 58 c4 σ h (Q1 G 2) = n4 k G (σ 3) h := by kernel_rfl
noncomputable def c5 := cL c3
@[simp] def n3 (G : KT1 R) (v0 v2 v3 : GV) (h : Heap) := (knil v0).bind fun v26 => (kfa 1 v26).bind fun v27 => (kload1 h v27).bind fun v28 => (knil v0).bind fun v30 => (kfa 0 v30).bind fun v31 => (kload1 h v31).bind fun v32 => (klen v32).bind fun v33 => (kbin .lss v28 v33).bind fun v34 => kcond v34 ((knil v0).bind fun v37 => (kfa 0 v37).bind fun v38 => (kload1 h v38).bind fun v39 => (knil v0).bind fun v41 => (kfa 1 v41).bind fun v42 => (kload1 h v42).bind fun v43 => (kia 1 v39 v43).bind fun v44 => (kload1 h v44).bind fun v45 => (kconvI .i64 v45).bind fun v46 => (kbin .add v3 v46).bind fun v47 => (kbin .and v47 (.int .i64 255)).bind fun v48 => (knil v0).bind fun v51 => (kfa 1 v51).bind fun v52 => (kload1 h v52).bind fun v53 => (kbin .add v53 (.int .i64 1)).bind fun v54 => (knil v0).bind fun v55 => (kfa 1 v55).bind fun v56 => (kstore 1 h v56 v54).bind fun h => n4 k G v48 h) (n4 k G v3 h)
theorem n3_eq (G : KT1 R) : KC k 58 c3 σ h (Q1 G 2) = W3 (n3 k G) 0 2 3 σ h := (kseq (a := c5) (b := c4) rfl (fun σ h => n4_eq k σ h G)).trans (by kernel_rfl)
noncomputable def c6 := cL c2
@[simp] def n2 (G : KT1 R) (v0 v2 : GV) (h : Heap) := (knil v0).bind fun v14 => (kfa 2 v14).bind fun v15 => (kload1 h v15).bind fun v16 => (kbin .shr v16 (.int .u64 33)).bind fun v17 => (knil v0).bind fun v19 => (kfa 2 v19).bind fun v20 => (kload1 h v20).bind fun v21 => (kbin .shr v21 (.int .u64 45)).bind fun v22 => (kbin .xor v17 v22).bind fun v23 => (kbin .and v23 (.int .i64 255)).bind fun v24 => n3 k G v0 v2 v24 h
theorem n2_eq (G : KT1 R) : KC k 58 c2 σ h (Q1 G 2) = W2 (n2 k G) 0 2 σ h := (kseq (a := c6) (b := c3) rfl (fun σ h => n3_eq k σ h G)).trans (by kernel_rfl)
noncomputable def c7 := cL c1
@[simp] def n1 (G : KT1 R) (v0 v2 : GV) (h : Heap) := (knil v0).bind fun v6 => (kfa 2 v6).bind fun v7 => (kload1 h v7).bind fun v8 => (kbin .mul v8 (.int .i64 6364136223846793005)).bind fun v9 => (kbin .add v9 (.int .i64 1442695040888963407)).bind fun v10 => (knil v0).bind fun v11 => (kfa 2 v11).bind fun v12 => (kstore 1 h v12 v10).bind fun h => n2 k G v0 v2 h
theorem n1_eq (G : KT1 R) : KC k 58 c1 σ h (Q1 G 2) = W2 (n1 k G) 0 2 σ h := (kseq (a := c7) (b := c2) rfl (fun σ h => n2_eq k σ h G)).trans (by kernel_rfl)
noncomputable def c8 := cL c0
@[simp] def n0 (G : KT1 R) (v0 : GV) (h : Heap) := n1 k G v0 (.int .i64 0) h
theorem n0_eq (G : KT1 R) : KC k 58 c0 σ h (Q1 G 2) = n0 k G (σ 0) h := (kseq (a := c8) (b := c1) rfl (fun σ h => n1_eq k σ h G)).trans (by kernel_rfl)
def run {R : Type} (k : Nat) (a0 : GV) (h : Heap) (fin : GV → Heap → Option R) : Option R := n0 k (fun x v2 h => kend x (fin v2 h)) a0 h
theorem gives {k : Nat} {a0 : GV} {h : Heap} {r : GV × Heap} (e : run k a0 h finH = some r) : HH fn.spec_l1Byte [a0] h = some r := kω_of (((kfun_eq (nt := 58) (c := c0) (show PP.funcs[fn.spec_l1Byte]? = some Try.f199 by kernel_rfl) (by kernel_rfl) (by kernel_rfl) (fun x σ h => by cases x <;> kernel_rfl)).trans (n0_eq k _ h _)).trans e)
end S.spec_l1Byte
namespace S.spec_l1DrawRune
noncomputable def c0 := bodyOf Try.f242
@[simp] def n0 {R : Type} (k : Nat) (G : KT1 R) (v0 : GV) (h : Heap) := (gfill (fun i => some (i * 1, 1)) (zeros [(.int .i64 0)] 12) [(0, (.int .i64 65)), (1, (.int .i64 97)), (2, (.int .i64 98)), (3, (.int .i64 32)), (4, (.int .i64 233)), (5, (.int .i64 19968)), (6, (.int .i64 128512)), (7, (.int .i64 769)), (8, (.int .i64 10)), (9, (.int .i64 27)), (10, (.int .i64 127)), (11, (.int .i64 65533))]).bind fun c => kbs 12 1 c h fun v3 h => (HH fn.spec_l1Below [v0, (.int .i64 12)] h).bind fun r => kr r fun v5 h => (kia 1 v3 v5).bind fun v6 => (kload1 h v6).bind fun v7 => G .ret v7 h
theorem n0_eq (G : KT1 R) : KC k 8 c0 σ h (Q1 G 2) = n0 k G (σ 0) h := by kernel_rfl
def run {R : Type} (k : Nat) (a0 : GV) (h : Heap) (fin : GV → Heap → Option R) : Option R := n0 k (fun x v2 h => kend x (fin v2 h)) a0 h
theorem gives {k : Nat} {a0 : GV} {h : Heap} {r : GV × Heap} (e : run k a0 h finH = some r) : HH fn.spec_l1DrawRune [a0] h = some r := kω_of (((kfun_eq (nt := 8) (c := c0) (show PP.funcs[fn.spec_l1DrawRune]? = some Try.f242 by kernel_rfl) (by kernel_rfl) (by kernel_rfl) (fun x σ h => by cases x <;> kernel_rfl)).trans (n0_eq k _ h _)).trans e)
end S.spec_l1DrawRune
namespace S.spec_DrawRuneOk
noncomputable def c0 := bodyOf Try.f183
@[simp] def n0 {R : Type} (k : Nat) (G : KT1 R) (v0 : GV) (h : Heap) := (HH fn.spec_l1New [v0] h).bind fun r => kr r fun v5 h => (HH fn.spec_l1Once [v5, (.int .i64 2)] h).bind fun r => kr r fun v7 h => kcond v7 ((gfill (fun i => some (i * 1, 1)) (zeros [(.int .i64 0)] 16) [(0, (.int .i64 (-1))), (1, (.int .i64 0)), (2, (.int .i64 127)), (3, (.int .i64 128)), (4, (.int .i64 2047)), (5, (.int .i64 2048)), (6, (.int .i64 55295)), (7, (.int .i64 55296)), (8, (.int .i64 57343)), (9, (.int .i64 57344)), (10, (.int .i64 65535)), (11, (.int .i64 65536)), (12, (.int .i64 1114111)), (13, (.int .i64 1114112)), (14, (.int .i64 4611686018427387904)), (15, (.int .i64 (-9223372036854775808)))]).bind fun c => kbs 16 1 c h fun v8 h => (HH fn.spec_l1Below [v5, (.int .i64 16)] h).bind fun r => kr r fun v10 h => (kia 1 v8 v10).bind fun v11 => (kload1 h v11).bind fun v12 => G .ret v12 h) ((HH fn.spec_l1DrawRune [v5] h).bind fun r => kr r fun v14 h => G .ret v14 h)
theorem n0_eq (G : KT1 R) : KC k 15 c0 σ h (Q1 G 2) = n0 k G (σ 0) h := by kernel_rfl
def run {R : Type} (k : Nat) (a0 : GV) (h : Heap) (fin : GV → Heap → Option R) : Option R := n0 k (fun x v2 h => kend x (fin v2 h)) a0 h
theorem gives {k : Nat} {a0 : GV} {v : GV} (e : run k a0 [] finN = some v) : NN fn.spec_DrawRuneOk [a0] = some v := nω_of (by kernel_rfl) (((kfun_eq (nt := 15) (c := c0) (show PP.funcs[fn.spec_DrawRuneOk]? = some Try.f183 by kernel_rfl) (by kernel_rfl) (by kernel_rfl) (fun x σ h => by cases x <;> kernel_rfl)).trans (n0_eq k _ [] _)).trans e)
end S.spec_DrawRuneOk
namespace S.spec_Runes
noncomputable def c0 := bodyOf Try.f184
noncomputable def c1 := cR c0
noncomputable def c2 := cR c1
noncomputable def c3 := cR c2
@[simp] def n3 {R : Type} (k : Nat) (G : KT1 R) (v3 : GV) (h : Heap) := G .ret v3 h
theorem n3_eq (G : KT1 R) : KC k 22 c3 σ h (Q1 G 2) = n3 k G (σ 3) h := by kernel_rfl
noncomputable def c4 := cL c2
noncomputable def c5 := cL c4
noncomputable def c6 := cL c5
noncomputable def c7 := cR c6
noncomputable def c8 := cL c7
@[simp] def n8 {R : Type} (k : Nat) (G : KT3 R) (v0 v2 v3 : GV) (h : Heap) := (kN NN fn.spec_Get [v0] h).bind fun v11 => (kxt 0 v11).bind fun v12 => (kxt 1 v11).bind fun v13 => (gfill (fun i => some (i * 1, 1)) (zeros [(.int .i64 0)] 1) [(0, v12)]).bind fun c => kbs 1 1 c h fun v16 h => (kapp [(.int .i64 0)] 1 8 v3 v16 h).bind fun r => kr r fun v17 h => (kslS v0 (some v13) none none).bind fun v20 => G .nrm v20 v2 v17 h
theorem n8_eq (G : KT3 R) : KC k 22 c8 σ h (Q3 G 0 2 3) = W3 (n8 k G) 0 2 3 σ h := by kernel_rfl
@[simp] def n7 (G : KT3 R) (v0 v2 v3 : GV) (h : Heap) := n8 k (fun x v0 v2 v3 h => kb 1 x fun x => G x v0 v2 v3 h) v0 v2 v3 h
theorem n7_eq (G : KT3 R) : KC k 22 c7 σ h (Q3 G 0 2 3) = W3 (n7 k G) 0 2 3 σ h := (kblock_eq (a := c8) rfl).trans (n8_eq k σ h (fun x v0 v2 v3 h => kb 1 x fun x => G x v0 v2 v3 h))
noncomputable def c9 := cL c6
@[simp] def n6 (G : KT3 R) (v0 v2 v3 : GV) (h : Heap) := (kbin .neq v0 (.str { data := #[] })).bind fun v8 => kcond v8 (n7 k G v0 v2 v3 h) (G (.ext 0) v0 v2 v3 h)
theorem n6_eq (G : KT3 R) : KC k 22 c6 σ h (Q3 G 0 2 3) = W3 (n6 k G) 0 2 3 σ h := (kseq (a := c9) (b := c7) rfl (fun σ h => n7_eq k σ h G)).trans (by kernel_rfl)
def l5 {R : Type} (k : Nat) (G : KT2 R) : Nat → GV → GV → GV → Heap → Option R
  | 0, _, _, _, _ => none
  | r + 1, v0, v2, v3, h => n6 k (fun x v0 v2 v3 h => kx x (l5 k G r v0 v2 v3 h) (G x v2 v3 h)) v0 v2 v3 h
theorem l5_eq {R : Type} (k : Nat) (G : KT2 R) : ∀ (r : Nat) (σ : GS) (h : Heap), kloop (fun σ h K => KC k 22 c6 σ h K) r σ h (Q2 G 2 3) = l5 k G r (σ 0) (σ 2) (σ 3) h
  | 0, _, _ => rfl
  | r + 1, σ, h => (kloop_eq (fun σ h => l5_eq k G r σ h)).trans (n6_eq k σ h (fun x v0 v2 v3 h => kx x (l5 k G r v0 v2 v3 h) (G x v2 v3 h)))
@[simp] def n5 (G : KT2 R) (v0 v2 v3 : GV) (h : Heap) := l5 k G k v0 v2 v3 h
theorem n5_eq (G : KT2 R) : KC k 22 c5 σ h (Q2 G 2 3) = W3 (n5 k G) 0 2 3 σ h := (kloopc_eq (a := c6) rfl).trans (l5_eq k G k σ h)
@[simp] def n4 (G : KT2 R) (v0 v2 v3 : GV) (h : Heap) := n5 k (fun x v2 v3 h => kb 0 x fun x => G x v2 v3 h) v0 v2 v3 h
theorem n4_eq (G : KT2 R) : KC k 22 c4 σ h (Q2 G 2 3) = W3 (n4 k G) 0 2 3 σ h := (kblock_eq (a := c5) rfl).trans (n5_eq k σ h (fun x v2 v3 h => kb 0 x fun x => G x v2 v3 h))
@[simp] def n2 (G : KT1 R) (v0 v2 v3 : GV) (h : Heap) := n4 k (fun x v2 v3 h => kx x (n3 k G v3 h) (G x v2 h)) v0 v2 v3 h
theorem n2_eq (G : KT1 R) : KC k 22 c2 σ h (Q1 G 2) = W3 (n2 k G) 0 2 3 σ h := (kseq (b := c3) rfl (fun σ h => n3_eq k σ h G)).trans (n4_eq k σ h (fun x v2 v3 h => kx x (n3 k G v3 h) (G x v2 h)))
noncomputable def c10 := cL c1
@[simp] def n1 (G : KT1 R) (v0 v2 : GV) (h : Heap) := n2 k G v0 v2 .emp h
theorem n1_eq (G : KT1 R) : KC k 22 c1 σ h (Q1 G 2) = W2 (n1 k G) 0 2 σ h := (kseq (a := c10) (b := c2) rfl (fun σ h => n2_eq k σ h G)).trans (by kernel_rfl)
noncomputable def c11 := cL c0
@[simp] def n0 (G : KT1 R) (v0 : GV) (h : Heap) := n1 k G v0 .nils h
theorem n0_eq (G : KT1 R) : KC k 22 c0 σ h (Q1 G 2) = n0 k G (σ 0) h := (kseq (a := c11) (b := c1) rfl (fun σ h => n1_eq k σ h G)).trans (by kernel_rfl)
def run {R : Type} (k : Nat) (a0 : GV) (h : Heap) (fin : GV → Heap → Option R) : Option R := n0 k (fun x v2 h => kend x (fin v2 h)) a0 h
theorem gives {k : Nat} {a0 : GV} {b : Nat} {q : GV × List (List GV)} (e : run k a0 [] (finO b) = some q) : OO fn.spec_Runes [a0] b = some q := oω_of (((kfun_eq (nt := 22) (c := c0) (show PP.funcs[fn.spec_Runes]? = some Try.f184 by kernel_rfl) (by kernel_rfl) (by kernel_rfl) (fun x σ h => by cases x <;> kernel_rfl)).trans (n0_eq k _ [] _)).trans e)
end S.spec_Runes
namespace S.spec_Get
noncomputable def c0 := bodyOf Try.f243
noncomputable def c1 := cR c0
noncomputable def c2 := cR c1
noncomputable def c3 := cR c2
noncomputable def c4 := cR c3
noncomputable def c5 := cR c4
noncomputable def c6 := cR c5
noncomputable def c7 := cR c6
@[simp] def n7 {R : Type} (k : Nat) (G : KT2 R) (v0 v2 v3 v4 v5 : GV) (h : Heap) := (kN NN fn.spec_Put [v5] h).bind fun v45 => (kslS v0 none (some v4) none).bind fun v48 => (kbin .neq v45 v48).bind fun v49 => kcond v49 (G .ret (.int .i64 65533) (.int .i64 1) h) (G .ret v5 v4 h)
theorem n7_eq (G : KT2 R) : KC k 52 c7 σ h (Q2 G 2 3) = W5 (n7 k G) 0 2 3 4 5 σ h := by kernel_rfl
noncomputable def c8 := cL c6
noncomputable def c9 := cR c8
noncomputable def c10 := cL c9
noncomputable def c11 := cL c10
noncomputable def c12 := cR c11
noncomputable def c13 := cR c12
@[simp] def n13 {R : Type} (k : Nat) (G : KT6 R) (v0 v2 v3 v4 v5 v6 : GV) (h : Heap) := (kbin .add v6 (.int .i64 1)).bind fun v35 => G .nrm v0 v2 v3 v4 v5 v35 h
theorem n13_eq (G : KT6 R) : KC k 52 c13 σ h (Q6 G 0 2 3 4 5 6) = W6 (n13 k G) 0 2 3 4 5 6 σ h := by kernel_rfl
noncomputable def c14 := cL c12
noncomputable def c15 := cL c14
@[simp] def n15 {R : Type} (k : Nat) (G : KT6 R) (v0 v2 v3 v4 v5 v6 : GV) (h : Heap) := (kbin .mul v5 (.int .i64 64)).bind fun v37 => (kbyte v0 v6).bind fun v40 => (kbin .rem v40 (.int .u8 64)).bind fun v41 => (kconvI .i64 v41).bind fun v42 => (kbin .add v37 v42).bind fun v43 => G .nrm v0 v2 v3 v4 v43 v6 h
theorem n15_eq (G : KT6 R) : KC k 52 c15 σ h (Q6 G 0 2 3 4 5 6) = W6 (n15 k G) 0 2 3 4 5 6 σ h := by kernel_rfl
@[simp] def n14 (G : KT6 R) (v0 v2 v3 v4 v5 v6 : GV) (h : Heap) := n15 k (fun x v0 v2 v3 v4 v5 v6 h => kb 1 x fun x => G x v0 v2 v3 v4 v5 v6 h) v0 v2 v3 v4 v5 v6 h
theorem n14_eq (G : KT6 R) : KC k 52 c14 σ h (Q6 G 0 2 3 4 5 6) = W6 (n14 k G) 0 2 3 4 5 6 σ h := (kblock_eq (a := c15) rfl).trans (n15_eq k σ h (fun x v0 v2 v3 v4 v5 v6 h => kb 1 x fun x => G x v0 v2 v3 v4 v5 v6 h))
@[simp] def n12 (G : KT6 R) (v0 v2 v3 v4 v5 v6 : GV) (h : Heap) := n14 k (fun x v0 v2 v3 v4 v5 v6 h => kx x (n13 k G v0 v2 v3 v4 v5 v6 h) (G x v0 v2 v3 v4 v5 v6 h)) v0 v2 v3 v4 v5 v6 h
theorem n12_eq (G : KT6 R) : KC k 52 c12 σ h (Q6 G 0 2 3 4 5 6) = W6 (n12 k G) 0 2 3 4 5 6 σ h := (kseq (b := c13) rfl (fun σ h => n13_eq k σ h G)).trans (n14_eq k σ h (fun x v0 v2 v3 v4 v5 v6 h => kx x (n13 k G v0 v2 v3 v4 v5 v6 h) (G x v0 v2 v3 v4 v5 v6 h)))
noncomputable def c16 := cL c11
@[simp] def n11 (G : KT6 R) (v0 v2 v3 v4 v5 v6 : GV) (h : Heap) := (kbin .lss v6 v4).bind fun v33 => kcond v33 (n12 k G v0 v2 v3 v4 v5 v6 h) (G (.ext 0) v0 v2 v3 v4 v5 v6 h)
theorem n11_eq (G : KT6 R) : KC k 52 c11 σ h (Q6 G 0 2 3 4 5 6) = W6 (n11 k G) 0 2 3 4 5 6 σ h := (kseq (a := c16) (b := c12) rfl (fun σ h => n12_eq k σ h G)).trans (by kernel_rfl)
def l10 {R : Type} (k : Nat) (G : KT5 R) : Nat → GV → GV → GV → GV → GV → GV → Heap → Option R
  | 0, _, _, _, _, _, _, _ => none
  | r + 1, v0, v2, v3, v4, v5, v6, h => n11 k (fun x v0 v2 v3 v4 v5 v6 h => kx x (l10 k G r v0 v2 v3 v4 v5 v6 h) (G x v0 v2 v3 v4 v5 h)) v0 v2 v3 v4 v5 v6 h
theorem l10_eq {R : Type} (k : Nat) (G : KT5 R) : ∀ (r : Nat) (σ : GS) (h : Heap), kloop (fun σ h K => KC k 52 c11 σ h K) r σ h (Q5 G 0 2 3 4 5) = l10 k G r (σ 0) (σ 2) (σ 3) (σ 4) (σ 5) (σ 6) h
  | 0, _, _ => rfl
  | r + 1, σ, h => (kloop_eq (fun σ h => l10_eq k G r σ h)).trans (n11_eq k σ h (fun x v0 v2 v3 v4 v5 v6 h => kx x (l10 k G r v0 v2 v3 v4 v5 v6 h) (G x v0 v2 v3 v4 v5 h)))
@[simp] def n10 (G : KT5 R) (v0 v2 v3 v4 v5 v6 : GV) (h : Heap) := l10 k G k v0 v2 v3 v4 v5 v6 h
theorem n10_eq (G : KT5 R) : KC k 52 c10 σ h (Q5 G 0 2 3 4 5) = W6 (n10 k G) 0 2 3 4 5 6 σ h := (kloopc_eq (a := c11) rfl).trans (l10_eq k G k σ h)
@[simp] def n9 (G : KT5 R) (v0 v2 v3 v4 v5 v6 : GV) (h : Heap) := n10 k (fun x v0 v2 v3 v4 v5 h => kb 0 x fun x => G x v0 v2 v3 v4 v5 h) v0 v2 v3 v4 v5 v6 h
theorem n9_eq (G : KT5 R) : KC k 52 c9 σ h (Q5 G 0 2 3 4 5) = W6 (n9 k G) 0 2 3 4 5 6 σ h := (kblock_eq (a := c10) rfl).trans (n10_eq k σ h (fun x v0 v2 v3 v4 v5 h => kb 0 x fun x => G x v0 v2 v3 v4 v5 h))
noncomputable def c17 := cL c8
@[simp] def n8 (G : KT5 R) (v0 v2 v3 v4 v5 : GV) (h : Heap) := n9 k G v0 v2 v3 v4 v5 (.int .i64 1) h
theorem n8_eq (G : KT5 R) : KC k 52 c8 σ h (Q5 G 0 2 3 4 5) = W5 (n8 k G) 0 2 3 4 5 σ h := (kseq (a := c17) (b := c9) rfl (fun σ h => n9_eq k σ h G)).trans (by kernel_rfl)
@[simp] def n6 (G : KT2 R) (v0 v2 v3 v4 v5 : GV) (h : Heap) := n8 k (fun x v0 v2 v3 v4 v5 h => kx x (n7 k G v0 v2 v3 v4 v5 h) (G x v2 v3 h)) v0 v2 v3 v4 v5 h
theorem n6_eq (G : KT2 R) : KC k 52 c6 σ h (Q2 G 2 3) = W5 (n6 k G) 0 2 3 4 5 σ h := (kseq (b := c7) rfl (fun σ h => n7_eq k σ h G)).trans (n8_eq k σ h (fun x v0 v2 v3 v4 v5 h => kx x (n7 k G v0 v2 v3 v4 v5 h) (G x v2 v3 h)))
noncomputable def c18 := cL c5
@[simp] def n5 (G : KT2 R) (v0 v2 v3 v4 v5 : GV) (h : Heap) := (kbin .gtr v4 (.int .i64 1)).bind fun v24 => kcond v24 ((kbin .sub (.int .i64 7) v4).bind fun v27 => (kconvI .u64 v27).bind fun v28 => (kbin .shl (.int .i64 1) v28).bind fun v29 => (kbin .rem v5 v29).bind fun v30 => n6 k G v0 v2 v3 v4 v30 h) (n6 k G v0 v2 v3 v4 v5 h)
theorem n5_eq (G : KT2 R) : KC k 52 c5 σ h (Q2 G 2 3) = W5 (n5 k G) 0 2 3 4 5 σ h := (kseq (a := c18) (b := c6) rfl (fun σ h => n6_eq k σ h G)).trans (by kernel_rfl)
noncomputable def c19 := cL c4
@[simp] def n4 (G : KT2 R) (v0 v2 v3 v4 : GV) (h : Heap) := (kbyte v0 (.int .i64 0)).bind fun v21 => (kconvI .i64 v21).bind fun v22 => n5 k G v0 v2 v3 v4 v22 h
theorem n4_eq (G : KT2 R) : KC k 52 c4 σ h (Q2 G 2 3) = W4 (n4 k G) 0 2 3 4 σ h := (kseq (a := c19) (b := c5) rfl (fun σ h => n5_eq k σ h G)).trans (by kernel_rfl)
noncomputable def c20 := cL c3
noncomputable def c21 := cR c20
@[simp] def n21 {R : Type} (k : Nat) (G : KT4 R) (v0 v2 v3 v4 v19 : GV) (h : Heap) := kcond v19 (G .ret v0 (.int .i64 65533) (.int .i64 1) v4 h) (G .nrm v0 v2 v3 v4 h)
theorem n21_eq (G : KT4 R) : KC k 52 c21 σ h (Q4 G 0 2 3 4) = W5 (n21 k G) 0 2 3 4 19 σ h := by kernel_rfl
noncomputable def c22 := cL c20
noncomputable def o22 : Array Oper := cO c22
@[simp] def g22_2 {R : Type} (k : Nat) (G : KT5 R) (v0 v2 v3 v4 v14 v18 : GV) (h : Heap) := (kpick v14 (.bool true) v18).bind fun v19 => G .nrm v0 v2 v3 v4 v19 h
theorem g22_2_eq (G : KT5 R) : kgroups PP cfg NN HH 52 o22 [(none, [7])] σ h (fun σ h => G .nrm (σ 0) (σ 2) (σ 3) (σ 4) (σ 19) h) = W6 (g22_2 k G) 0 2 3 4 14 18 σ h := by kernel_rfl
@[simp] def g22_1 (G : KT5 R) (v0 v2 v3 v4 v14 : GV) (h : Heap) := bif tr false v14 then (klenS v0).bind fun v17 => (kbin .gtr v4 v17).bind fun v18 => g22_2 k G v0 v2 v3 v4 v14 v18 h else g22_2 k G v0 v2 v3 v4 v14 .un h
theorem g22_1_eq (G : KT5 R) : kgroups PP cfg NN HH 52 o22 [(some (2, false), [3, 4, 5, 6]), (none, [7])] σ h (fun σ h => G .nrm (σ 0) (σ 2) (σ 3) (σ 4) (σ 19) h) = W5 (g22_1 k G) 0 2 3 4 14 σ h := (kgroups_cons (fun σ h => g22_2_eq k σ h G)).trans (by kernel_rfl)
@[simp] def g22_0 (G : KT5 R) (v0 v2 v3 v4 : GV) (h : Heap) := (kbin .eql v4 (.int .i64 0)).bind fun v13 => g22_1 k G v0 v2 v3 v4 v13 h
theorem g22_0_eq (G : KT5 R) : kgroups PP cfg NN HH 52 o22 [(none, [0, 1, 2]), (some (2, false), [3, 4, 5, 6]), (none, [7])] σ h (fun σ h => G .nrm (σ 0) (σ 2) (σ 3) (σ 4) (σ 19) h) = W4 (g22_0 k G) 0 2 3 4 σ h := (kgroups_cons (fun σ h => g22_1_eq k σ h G)).trans (by kernel_rfl)
@[simp] def n22 (G : KT5 R) (v0 v2 v3 v4 : GV) (h : Heap) := g22_0 k G v0 v2 v3 v4 h
theorem n22_eq (G : KT5 R) : KC k 52 c22 σ h (Q5 G 0 2 3 4 19) = W4 (n22 k G) 0 2 3 4 σ h := (kregion_eq (id := 4) (draw := false) (ops := o22) (gs := [(none, [0, 1, 2]), (some (2, false), [3, 4, 5, 6]), (none, [7])]) (by kernel_rfl) (by kernel_rfl) (by kernel_rfl)).trans (g22_0_eq k σ h G)
@[simp] def n20 (G : KT4 R) (v0 v2 v3 v4 : GV) (h : Heap) := n22 k (fun x v0 v2 v3 v4 v19 h => kx x (n21 k G v0 v2 v3 v4 v19 h) (G x v0 v2 v3 v4 h)) v0 v2 v3 v4 h
theorem n20_eq (G : KT4 R) : KC k 52 c20 σ h (Q4 G 0 2 3 4) = W4 (n20 k G) 0 2 3 4 σ h := (kseq (b := c21) rfl (fun σ h => n21_eq k σ h G)).trans (n22_eq k σ h (fun x v0 v2 v3 v4 v19 h => kx x (n21 k G v0 v2 v3 v4 v19 h) (G x v0 v2 v3 v4 h)))
@[simp] def n3 (G : KT2 R) (v0 v2 v3 v4 : GV) (h : Heap) := n20 k (fun x v0 v2 v3 v4 h => kx x (n4 k G v0 v2 v3 v4 h) (G x v2 v3 h)) v0 v2 v3 v4 h
theorem n3_eq (G : KT2 R) : KC k 52 c3 σ h (Q2 G 2 3) = W4 (n3 k G) 0 2 3 4 σ h := (kseq (b := c4) rfl (fun σ h => n4_eq k σ h G)).trans (n20_eq k σ h (fun x v0 v2 v3 v4 h => kx x (n4 k G v0 v2 v3 v4 h) (G x v2 v3 h)))
noncomputable def c23 := cL c2
@[simp] def n2 (G : KT2 R) (v0 v2 v3 : GV) (h : Heap) := (kbyte v0 (.int .i64 0)).bind fun v10 => (kN NN fn.spec_l1Long [v10] h).bind fun v11 => n3 k G v0 v2 v3 v11 h
theorem n2_eq (G : KT2 R) : KC k 52 c2 σ h (Q2 G 2 3) = W3 (n2 k G) 0 2 3 σ h := (kseq (a := c23) (b := c3) rfl (fun σ h => n3_eq k σ h G)).trans (by kernel_rfl)
noncomputable def c24 := cL c1
@[simp] def n1 (G : KT2 R) (v0 v2 v3 : GV) (h : Heap) := (kbin .eql v0 (.str { data := #[] })).bind fun v8 => kcond v8 (G .ret (.int .i64 0) (.int .i64 0) h) (n2 k G v0 v2 v3 h)
theorem n1_eq (G : KT2 R) : KC k 52 c1 σ h (Q2 G 2 3) = W3 (n1 k G) 0 2 3 σ h := (kseq (a := c24) (b := c2) rfl (fun σ h => n2_eq k σ h G)).trans (by kernel_rfl)
noncomputable def c25 := cL c0
@[simp] def n0 (G : KT2 R) (v0 : GV) (h : Heap) := n1 k G v0 (.int .i64 0) (.int .i64 0) h
theorem n0_eq (G : KT2 R) : KC k 52 c0 σ h (Q2 G 2 3) = n0 k G (σ 0) h := (kseq (a := c25) (b := c1) rfl (fun σ h => n1_eq k σ h G)).trans (by kernel_rfl)
def run {R : Type} (k : Nat) (a0 : GV) (h : Heap) (fin : GV → Heap → Option R) : Option R := n0 k (fun x v2 v3 h => kend x (fin (.tup [v2, v3]) h)) a0 h
theorem gives {k : Nat} {a0 : GV} {v : GV} (e : run k a0 [] finN = some v) : NN fn.spec_Get [a0] = some v := nω_of (by kernel_rfl) (((kfun_eq (nt := 52) (c := c0) (show PP.funcs[fn.spec_Get]? = some Try.f243 by kernel_rfl) (by kernel_rfl) (by kernel_rfl) (fun x σ h => by cases x <;> kernel_rfl)).trans (n0_eq k _ [] _)).trans e)
end S.spec_Get
namespace S.spec_l1Long
noncomputable def c0 := bodyOf Try.f274
noncomputable def c1 := cR c0
noncomputable def c2 := cR c1
@[simp] def n2 {R : Type} (k : Nat) (G : KT1 R) (h : Heap) := G .ret (.int .i64 0) h
theorem n2_eq (G : KT1 R) : KC k 27 c2 σ h (Q1 G 2) = n2 k G h := by kernel_rfl
noncomputable def c3 := cL c1
noncomputable def c4 := cL c3
noncomputable def c5 := cR c4
noncomputable def c6 := cL c5
@[simp] def n6 {R : Type} (k : Nat) (G : KT1 R) (h : Heap) := G .ret (.int .i64 1) h
theorem n6_eq (G : KT1 R) : KC k 27 c6 σ h (Q1 G 2) = n6 k G h := by kernel_rfl
noncomputable def c7 := cR c5
noncomputable def c8 := cR c7
noncomputable def c9 := cL c8
@[simp] def n9 {R : Type} (k : Nat) (G : KT1 R) (h : Heap) := G .ret (.int .i64 2) h
theorem n9_eq (G : KT1 R) : KC k 27 c9 σ h (Q1 G 2) = n9 k G h := by kernel_rfl
noncomputable def c10 := cR c8
noncomputable def c11 := cR c10
noncomputable def c12 := cL c11
@[simp] def n12 {R : Type} (k : Nat) (G : KT1 R) (h : Heap) := G .ret (.int .i64 3) h
theorem n12_eq (G : KT1 R) : KC k 27 c12 σ h (Q1 G 2) = n12 k G h := by kernel_rfl
noncomputable def c13 := cR c11
noncomputable def c14 := cR c13
@[simp] def n14 {R : Type} (k : Nat) (G : KT1 R) (v2 v20 : GV) (h : Heap) := kcond v20 (G .ret (.int .i64 4) h) (G .nrm v2 h)
theorem n14_eq (G : KT1 R) : KC k 27 c14 σ h (Q1 G 2) = W2 (n14 k G) 2 20 σ h := by kernel_rfl
noncomputable def c15 := cL c13
noncomputable def o15 : Array Oper := cO c15
@[simp] def g15_2 {R : Type} (k : Nat) (G : KT2 R) (v2 v23 v25 : GV) (h : Heap) := (kpick v23 v25 (.bool false)).bind fun v26 => G .nrm v2 v26 h
theorem g15_2_eq (G : KT2 R) : kgroups PP cfg NN HH 27 o15 [(none, [5, 6])] σ h (fun σ h => G .nrm (σ 2) (σ 20) h) = W3 (g15_2 k G) 2 23 25 σ h := by kernel_rfl
@[simp] def g15_1 (G : KT2 R) (v0 v2 v23 : GV) (h : Heap) := bif tr true v23 then (kbin .lss v0 (.int .u8 248)).bind fun v25 => g15_2 k G v2 v23 v25 h else g15_2 k G v2 v23 .un h
theorem g15_1_eq (G : KT2 R) : kgroups PP cfg NN HH 27 o15 [(some (2, true), [3, 4]), (none, [5, 6])] σ h (fun σ h => G .nrm (σ 2) (σ 20) h) = W3 (g15_1 k G) 0 2 23 σ h := (kgroups_cons (fun σ h => g15_2_eq k σ h G)).trans (by kernel_rfl)
@[simp] def g15_0 (G : KT2 R) (v0 v2 : GV) (h : Heap) := (kbin .geq v0 (.int .u8 240)).bind fun v22 => g15_1 k G v0 v2 v22 h
theorem g15_0_eq (G : KT2 R) : kgroups PP cfg NN HH 27 o15 [(none, [0, 1, 2]), (some (2, true), [3, 4]), (none, [5, 6])] σ h (fun σ h => G .nrm (σ 2) (σ 20) h) = W2 (g15_0 k G) 0 2 σ h := (kgroups_cons (fun σ h => g15_1_eq k σ h G)).trans (by kernel_rfl)
@[simp] def n15 (G : KT2 R) (v0 v2 : GV) (h : Heap) := g15_0 k G v0 v2 h
theorem n15_eq (G : KT2 R) : KC k 27 c15 σ h (Q2 G 2 20) = W2 (n15 k G) 0 2 σ h := (kregion_eq (id := 7) (draw := false) (ops := o15) (gs := [(none, [0, 1, 2]), (some (2, true), [3, 4]), (none, [5, 6])]) (by kernel_rfl) (by kernel_rfl) (by kernel_rfl)).trans (g15_0_eq k σ h G)
@[simp] def n13 (G : KT1 R) (v0 v2 : GV) (h : Heap) := n15 k (fun x v2 v20 h => kx x (n14 k G v2 v20 h) (G x v2 h)) v0 v2 h
theorem n13_eq (G : KT1 R) : KC k 27 c13 σ h (Q1 G 2) = W2 (n13 k G) 0 2 σ h := (kseq (b := c14) rfl (fun σ h => n14_eq k σ h G)).trans (n15_eq k σ h (fun x v2 v20 h => kx x (n14 k G v2 v20 h) (G x v2 h)))
@[simp] def n11 (G : KT1 R) (v0 v2 v13 : GV) (h : Heap) := kcond v13 (n12 k G h) (n13 k G v0 v2 h)
theorem n11_eq (G : KT1 R) : KC k 27 c11 σ h (Q1 G 2) = W3 (n11 k G) 0 2 13 σ h := (kcond_eq (a := c12) (b := c13) rfl (by rfl)).trans (congr (congrArg (kcond (σ 13)) (n12_eq k σ h G)) (n13_eq k σ h G))
noncomputable def c16 := cL c10
noncomputable def o16 : Array Oper := cO c16
@[simp] def g16_2 {R : Type} (k : Nat) (G : KT3 R) (v0 v2 v16 v18 : GV) (h : Heap) := (kpick v16 v18 (.bool false)).bind fun v19 => G .nrm v0 v2 v19 h
theorem g16_2_eq (G : KT3 R) : kgroups PP cfg NN HH 27 o16 [(none, [5, 6])] σ h (fun σ h => G .nrm (σ 0) (σ 2) (σ 13) h) = W4 (g16_2 k G) 0 2 16 18 σ h := by kernel_rfl
@[simp] def g16_1 (G : KT3 R) (v0 v2 v16 : GV) (h : Heap) := bif tr true v16 then (kbin .lss v0 (.int .u8 240)).bind fun v18 => g16_2 k G v0 v2 v16 v18 h else g16_2 k G v0 v2 v16 .un h
theorem g16_1_eq (G : KT3 R) : kgroups PP cfg NN HH 27 o16 [(some (2, true), [3, 4]), (none, [5, 6])] σ h (fun σ h => G .nrm (σ 0) (σ 2) (σ 13) h) = W3 (g16_1 k G) 0 2 16 σ h := (kgroups_cons (fun σ h => g16_2_eq k σ h G)).trans (by kernel_rfl)
@[simp] def g16_0 (G : KT3 R) (v0 v2 : GV) (h : Heap) := (kbin .geq v0 (.int .u8 224)).bind fun v15 => g16_1 k G v0 v2 v15 h
theorem g16_0_eq (G : KT3 R) : kgroups PP cfg NN HH 27 o16 [(none, [0, 1, 2]), (some (2, true), [3, 4]), (none, [5, 6])] σ h (fun σ h => G .nrm (σ 0) (σ 2) (σ 13) h) = W2 (g16_0 k G) 0 2 σ h := (kgroups_cons (fun σ h => g16_1_eq k σ h G)).trans (by kernel_rfl)
@[simp] def n16 (G : KT3 R) (v0 v2 : GV) (h : Heap) := g16_0 k G v0 v2 h
theorem n16_eq (G : KT3 R) : KC k 27 c16 σ h (Q3 G 0 2 13) = W2 (n16 k G) 0 2 σ h := (kregion_eq (id := 5) (draw := false) (ops := o16) (gs := [(none, [0, 1, 2]), (some (2, true), [3, 4]), (none, [5, 6])]) (by kernel_rfl) (by kernel_rfl) (by kernel_rfl)).trans (g16_0_eq k σ h G)
@[simp] def n10 (G : KT1 R) (v0 v2 : GV) (h : Heap) := n16 k (fun x v0 v2 v13 h => kx x (n11 k G v0 v2 v13 h) (G x v2 h)) v0 v2 h
theorem n10_eq (G : KT1 R) : KC k 27 c10 σ h (Q1 G 2) = W2 (n10 k G) 0 2 σ h := (kseq (b := c11) rfl (fun σ h => n11_eq k σ h G)).trans (n16_eq k σ h (fun x v0 v2 v13 h => kx x (n11 k G v0 v2 v13 h) (G x v2 h)))
@[simp] def n8 (G : KT1 R) (v0 v2 v6 : GV) (h : Heap) := kcond v6 (n9 k G h) (n10 k G v0 v2 h)
theorem n8_eq (G : KT1 R) : KC k 27 c8 σ h (Q1 G 2) = W3 (n8 k G) 0 2 6 σ h := (kcond_eq (a := c9) (b := c10) rfl (by rfl)).trans (congr (congrArg (kcond (σ 6)) (n9_eq k σ h G)) (n10_eq k σ h G))
noncomputable def c17 := cL c7
noncomputable def o17 : Array Oper := cO c17
@[simp] def g17_2 {R : Type} (k : Nat) (G : KT3 R) (v0 v2 v9 v11 : GV) (h : Heap) := (kpick v9 v11 (.bool false)).bind fun v12 => G .nrm v0 v2 v12 h
theorem g17_2_eq (G : KT3 R) : kgroups PP cfg NN HH 27 o17 [(none, [5, 6])] σ h (fun σ h => G .nrm (σ 0) (σ 2) (σ 6) h) = W4 (g17_2 k G) 0 2 9 11 σ h := by kernel_rfl
@[simp] def g17_1 (G : KT3 R) (v0 v2 v9 : GV) (h : Heap) := bif tr true v9 then (kbin .lss v0 (.int .u8 224)).bind fun v11 => g17_2 k G v0 v2 v9 v11 h else g17_2 k G v0 v2 v9 .un h
theorem g17_1_eq (G : KT3 R) : kgroups PP cfg NN HH 27 o17 [(some (2, true), [3, 4]), (none, [5, 6])] σ h (fun σ h => G .nrm (σ 0) (σ 2) (σ 6) h) = W3 (g17_1 k G) 0 2 9 σ h := (kgroups_cons (fun σ h => g17_2_eq k σ h G)).trans (by kernel_rfl)
@[simp] def g17_0 (G : KT3 R) (v0 v2 : GV) (h : Heap) := (kbin .geq v0 (.int .u8 192)).bind fun v8 => g17_1 k G v0 v2 v8 h
theorem g17_0_eq (G : KT3 R) : kgroups PP cfg NN HH 27 o17 [(none, [0, 1, 2]), (some (2, true), [3, 4]), (none, [5, 6])] σ h (fun σ h => G .nrm (σ 0) (σ 2) (σ 6) h) = W2 (g17_0 k G) 0 2 σ h := (kgroups_cons (fun σ h => g17_1_eq k σ h G)).trans (by kernel_rfl)
@[simp] def n17 (G : KT3 R) (v0 v2 : GV) (h : Heap) := g17_0 k G v0 v2 h
theorem n17_eq (G : KT3 R) : KC k 27 c17 σ h (Q3 G 0 2 6) = W2 (n17 k G) 0 2 σ h := (kregion_eq (id := 3) (draw := false) (ops := o17) (gs := [(none, [0, 1, 2]), (some (2, true), [3, 4]), (none, [5, 6])]) (by kernel_rfl) (by kernel_rfl) (by kernel_rfl)).trans (g17_0_eq k σ h G)
@[simp] def n7 (G : KT1 R) (v0 v2 : GV) (h : Heap) := n17 k (fun x v0 v2 v6 h => kx x (n8 k G v0 v2 v6 h) (G x v2 h)) v0 v2 h
theorem n7_eq (G : KT1 R) : KC k 27 c7 σ h (Q1 G 2) = W2 (n7 k G) 0 2 σ h := (kseq (b := c8) rfl (fun σ h => n8_eq k σ h G)).trans (n17_eq k σ h (fun x v0 v2 v6 h => kx x (n8 k G v0 v2 v6 h) (G x v2 h)))
@[simp] def n5 (G : KT1 R) (v0 v2 v3 : GV) (h : Heap) := kcond v3 (n6 k G h) (n7 k G v0 v2 h)
theorem n5_eq (G : KT1 R) : KC k 27 c5 σ h (Q1 G 2) = W3 (n5 k G) 0 2 3 σ h := (kcond_eq (a := c6) (b := c7) rfl (by rfl)).trans (congr (congrArg (kcond (σ 3)) (n6_eq k σ h G)) (n7_eq k σ h G))
noncomputable def c18 := cL c4
@[simp] def n4 (G : KT1 R) (v0 v2 : GV) (h : Heap) := (kbin .lss v0 (.int .u8 128)).bind fun v5 => n5 k G v0 v2 v5 h
theorem n4_eq (G : KT1 R) : KC k 27 c4 σ h (Q1 G 2) = W2 (n4 k G) 0 2 σ h := (kseq (a := c18) (b := c5) rfl (fun σ h => n5_eq k σ h G)).trans (by kernel_rfl)
@[simp] def n3 (G : KT1 R) (v0 v2 : GV) (h : Heap) := n4 k (fun x v2 h => kb 0 x fun x => G x v2 h) v0 v2 h
theorem n3_eq (G : KT1 R) : KC k 27 c3 σ h (Q1 G 2) = W2 (n3 k G) 0 2 σ h := (kblock_eq (a := c4) rfl).trans (n4_eq k σ h (fun x v2 h => kb 0 x fun x => G x v2 h))
@[simp] def n1 (G : KT1 R) (v0 v2 : GV) (h : Heap) := n3 k (fun x v2 h => kx x (n2 k G h) (G x v2 h)) v0 v2 h
theorem n1_eq (G : KT1 R) : KC k 27 c1 σ h (Q1 G 2) = W2 (n1 k G) 0 2 σ h := (kseq (b := c2) rfl (fun σ h => n2_eq k σ h G)).trans (n3_eq k σ h (fun x v2 h => kx x (n2 k G h) (G x v2 h)))
noncomputable def c19 := cL c0
@[simp] def n0 (G : KT1 R) (v0 : GV) (h : Heap) := n1 k G v0 (.int .i64 0) h
theorem n0_eq (G : KT1 R) : KC k 27 c0 σ h (Q1 G 2) = n0 k G (σ 0) h := (kseq (a := c19) (b := c1) rfl (fun σ h => n1_eq k σ h G)).trans (by kernel_rfl)
def run {R : Type} (k : Nat) (a0 : GV) (h : Heap) (fin : GV → Heap → Option R) : Option R := n0 k (fun x v2 h => kend x (fin v2 h)) a0 h
theorem gives {k : Nat} {a0 : GV} {v : GV} (e : run k a0 [] finN = some v) : NN fn.spec_l1Long [a0] = some v := nω_of (by kernel_rfl) (((kfun_eq (nt := 27) (c := c0) (show PP.funcs[fn.spec_l1Long]? = some Try.f274 by kernel_rfl) (by kernel_rfl) (by kernel_rfl) (fun x σ h => by cases x <;> kernel_rfl)).trans (n0_eq k _ [] _)).trans e)
end S.spec_l1Long
namespace S.spec_Put
noncomputable def c0 := bodyOf Try.f275
@[simp] def n0 {R : Type} (k : Nat) (G : KT1 R) (v0 : GV) (h : Heap) := (kN NN fn.spec_RuneOk [v0] h).bind fun v4 => (kun .not v4).bind fun v5 => kcond v5 (G .ret (.str { data := #[] }) h) ((kN NN fn.spec_l1Put [v0] h).bind fun v7 => (kbstr h v7).bind fun v8 => G .ret v8 h)
theorem n0_eq (G : KT1 R) : KC k 9 c0 σ h (Q1 G 2) = n0 k G (σ 0) h := by kernel_rfl
def run {R : Type} (k : Nat) (a0 : GV) (h : Heap) (fin : GV → Heap → Option R) : Option R := n0 k (fun x v2 h => kend x (fin v2 h)) a0 h
theorem gives {k : Nat} {a0 : GV} {v : GV} (e : run k a0 [] finN = some v) : NN fn.spec_Put [a0] = some v := nω_of (by kernel_rfl) (((kfun_eq (nt := 9) (c := c0) (show PP.funcs[fn.spec_Put]? = some Try.f275 by kernel_rfl) (by kernel_rfl) (by kernel_rfl) (fun x σ h => by cases x <;> kernel_rfl)).trans (n0_eq k _ [] _)).trans e)
end S.spec_Put
namespace S.spec_l1Put
noncomputable def c0 := bodyOf Try.f287
noncomputable def c1 := cR c0
noncomputable def c2 := cR c1
@[simp] def n2 {R : Type} (k : Nat) (G : KT1 R) (v0 : GV) (h : Heap) := (kbin .quo v0 (.int .i64 262144)).bind fun v39 => (kbin .add (.int .i64 240) v39).bind fun v40 => (kconvI .u8 v40).bind fun v41 => (kbin .quo v0 (.int .i64 4096)).bind fun v43 => (kbin .rem v43 (.int .i64 64)).bind fun v44 => (kbin .add (.int .i64 128) v44).bind fun v45 => (kconvI .u8 v45).bind fun v46 => (kbin .quo v0 (.int .i64 64)).bind fun v48 => (kbin .rem v48 (.int .i64 64)).bind fun v49 => (kbin .add (.int .i64 128) v49).bind fun v50 => (kconvI .u8 v50).bind fun v51 => (kbin .rem v0 (.int .i64 64)).bind fun v53 => (kbin .add (.int .i64 128) v53).bind fun v54 => (kconvI .u8 v54).bind fun v55 => (gfill (fun i => some (i * 1, 1)) (zeros [(.int .u8 0)] 4) [(0, v41), (1, v46), (2, v51), (3, v55)]).bind fun c => kbs 4 1 c h fun v56 h => G .ret v56 h
theorem n2_eq (G : KT1 R) : KC k 57 c2 σ h (Q1 G 2) = n2 k G (σ 0) h := by kernel_rfl
noncomputable def c3 := cL c1
noncomputable def c4 := cL c3
@[simp] def n4 {R : Type} (k : Nat) (G : KT2 R) (v0 v2 : GV) (h : Heap) := (kbin .lss v0 (.int .i64 128)).bind fun v5 => kcond v5 ((kconvI .u8 v0).bind fun v7 => (gfill (fun i => some (i * 1, 1)) (zeros [(.int .u8 0)] 1) [(0, v7)]).bind fun c => kbs 1 1 c h fun v8 h => G .ret v0 v8 h) ((kbin .lss v0 (.int .i64 2048)).bind fun v11 => kcond v11 ((kbin .quo v0 (.int .i64 64)).bind fun v13 => (kbin .add (.int .i64 192) v13).bind fun v14 => (kconvI .u8 v14).bind fun v15 => (kbin .rem v0 (.int .i64 64)).bind fun v17 => (kbin .add (.int .i64 128) v17).bind fun v18 => (kconvI .u8 v18).bind fun v19 => (gfill (fun i => some (i * 1, 1)) (zeros [(.int .u8 0)] 2) [(0, v15), (1, v19)]).bind fun c => kbs 2 1 c h fun v20 h => G .ret v0 v20 h) ((kbin .lss v0 (.int .i64 65536)).bind fun v23 => kcond v23 ((kbin .quo v0 (.int .i64 4096)).bind fun v25 => (kbin .add (.int .i64 224) v25).bind fun v26 => (kconvI .u8 v26).bind fun v27 => (kbin .quo v0 (.int .i64 64)).bind fun v29 => (kbin .rem v29 (.int .i64 64)).bind fun v30 => (kbin .add (.int .i64 128) v30).bind fun v31 => (kconvI .u8 v31).bind fun v32 => (kbin .rem v0 (.int .i64 64)).bind fun v34 => (kbin .add (.int .i64 128) v34).bind fun v35 => (kconvI .u8 v35).bind fun v36 => (gfill (fun i => some (i * 1, 1)) (zeros [(.int .u8 0)] 3) [(0, v27), (1, v32), (2, v36)]).bind fun c => kbs 3 1 c h fun v37 h => G .ret v0 v37 h) (G .nrm v0 v2 h)))
theorem n4_eq (G : KT2 R) : KC k 57 c4 σ h (Q2 G 0 2) = W2 (n4 k G) 0 2 σ h := by kernel_rfl
@[simp] def n3 (G : KT2 R) (v0 v2 : GV) (h : Heap) := n4 k (fun x v0 v2 h => kb 0 x fun x => G x v0 v2 h) v0 v2 h
theorem n3_eq (G : KT2 R) : KC k 57 c3 σ h (Q2 G 0 2) = W2 (n3 k G) 0 2 σ h := (kblock_eq (a := c4) rfl).trans (n4_eq k σ h (fun x v0 v2 h => kb 0 x fun x => G x v0 v2 h))
@[simp] def n1 (G : KT1 R) (v0 v2 : GV) (h : Heap) := n3 k (fun x v0 v2 h => kx x (n2 k G v0 h) (G x v2 h)) v0 v2 h
theorem n1_eq (G : KT1 R) : KC k 57 c1 σ h (Q1 G 2) = W2 (n1 k G) 0 2 σ h := (kseq (b := c2) rfl (fun σ h => n2_eq k σ h G)).trans (n3_eq k σ h (fun x v0 v2 h => kx x (n2 k G v0 h) (G x v2 h)))
noncomputable def c5 := cL c0
@[simp] def n0 (G : KT1 R) (v0 : GV) (h : Heap) := n1 k G v0 .nils h
theorem n0_eq (G : KT1 R) : KC k 57 c0 σ h (Q1 G 2) = n0 k G (σ 0) h := (kseq (a := c5) (b := c1) rfl (fun σ h => n1_eq k σ h G)).trans (by kernel_rfl)
def run {R : Type} (k : Nat) (a0 : GV) (h : Heap) (fin : GV → Heap → Option R) : Option R := n0 k (fun x v2 h => kend x (fin v2 h)) a0 h
theorem gives {k : Nat} {a0 : GV} {v : GV} (e : run k a0 [] finN = some v) : NN fn.spec_l1Put [a0] = some v := nω_of (by kernel_rfl) (((kfun_eq (nt := 57) (c := c0) (show PP.funcs[fn.spec_l1Put]? = some Try.f287 by kernel_rfl) (by kernel_rfl) (by kernel_rfl) (fun x σ h => by cases x <;> kernel_rfl)).trans (n0_eq k _ [] _)).trans e)
end S.spec_l1Put
namespace S.spec_l6DrawText
noncomputable def c0 := bodyOf Try.f185
noncomputable def c1 := cR c0
noncomputable def c2 := cR c1
noncomputable def c3 := cR c2
@[simp] def n3 {R : Type} (k : Nat) (G : KT1 R) (v3 : GV) (h : Heap) := G .ret v3 h
theorem n3_eq (G : KT1 R) : KC k 19 c3 σ h (Q1 G 2) = n3 k G (σ 3) h := by kernel_rfl
noncomputable def c4 := cL c2
noncomputable def c5 := cR c4
noncomputable def c6 := cL c5
noncomputable def c7 := cL c6
noncomputable def c8 := cR c7
noncomputable def c9 := cR c8
@[simp] def n9 {R : Type} (k : Nat) (G : KT4 R) (v0 v2 v3 v4 : GV) (h : Heap) := (kbin .sub v4 (.int .i64 1)).bind fun v10 => G .nrm v0 v2 v3 v10 h
theorem n9_eq (G : KT4 R) : KC k 19 c9 σ h (Q4 G 0 2 3 4) = W4 (n9 k G) 0 2 3 4 σ h := by kernel_rfl
noncomputable def c10 := cL c8
noncomputable def c11 := cL c10
@[simp] def n11 {R : Type} (k : Nat) (G : KT4 R) (v0 v2 v3 v4 : GV) (h : Heap) := (gfill (fun i => some (i * 1, 1)) (zeros [(.str { data := #[] })] 45) [(0, (.str { data := #[97, 98] })), (1, (.str { data := #[120] })), (2, (.str { data := #[195, 169] })), (3, (.str { data := #[228, 184, 128] })), (4, (.str { data := #[13, 10] })), (5, (.str { data := #[10] })), (6, (.str { data := #[9] })), (7, (.str { data := #[8] })), (8, (.str { data := #[27, 91, 50, 59, 51, 72] })), (9, (.str { data := #[27, 91, 65] })), (10, (.str { data := #[27, 91, 51, 66] })), (11, (.str { data := #[27, 91, 50, 67] })), (12, (.str { data := #[27, 91, 68] })), (13, (.str { data := #[27, 91, 74] })), (14, (.str { data := #[27, 91, 49, 75] })), (15, (.str { data := #[27, 91, 50, 74] })), (16, (.str { data := #[27, 91, 75] })), (17, (.str { data := #[27, 91, 76] })), (18, (.str { data := #[27, 91, 50, 77] })), (19, (.str { data := #[27, 91, 64] })), (20, (.str { data := #[27, 91, 50, 80] })), (21, (.str { data := #[27, 91, 51, 88] })), (22, (.str { data := #[27, 91, 83] })), (23, (.str { data := #[27, 91, 84] })), (24, (.str { data := #[27, 91, 49, 59, 51, 49, 109] })), (25, (.str { data := #[27, 91, 48, 109] })), (26, (.str { data := #[27, 91, 52, 52, 59, 55, 109] })), (27, (.str { data := #[27, 91, 50, 59, 51, 114] })), (28, (.str { data := #[27, 91, 114] })), (29, (.str { data := #[27, 91, 63, 55, 108] })), (30, (.str { data := #[27, 91, 63, 55, 104] })), (31, (.str { data := #[27, 91, 63, 50, 53, 108] })), (32, (.str { data := #[27, 91, 63, 49, 48, 52, 57, 104] })), (33, (.str { data := #[27, 91, 63, 49, 48, 52, 57, 108] })), (34, (.str { data := #[27, 68] })), (35, (.str { data := #[27, 77] })), (36, (.str { data := #[27, 69] })), (37, (.str { data := #[27, 55] })), (38, (.str { data := #[27, 56] })), (39, (.str { data := #[27, 99] })), (40, (.str { data := #[27, 93, 48, 59, 104, 105, 7] })), (41, (.str { data := #[27, 93, 116, 27, 92] })), (42, (.str { data := #[27, 91, 53, 71] })), (43, (.str { data := #[27, 91, 50, 100] })), (44, (.str { data := #[104, 101, 108, 108, 111, 32, 119, 111, 114, 108, 100] }))]).bind fun c => kbs 45 1 c h fun v12 h => (HH fn.spec_l1Below [v0, (.int .i64 45)] h).bind fun r => kr r fun v14 h => (kia 1 v12 v14).bind fun v15 => (kload1 h v15).bind fun v16 => (kbin .add v3 v16).bind fun v17 => G .nrm v0 v2 v17 v4 h
theorem n11_eq (G : KT4 R) : KC k 19 c11 σ h (Q4 G 0 2 3 4) = W4 (n11 k G) 0 2 3 4 σ h := by kernel_rfl
@[simp] def n10 (G : KT4 R) (v0 v2 v3 v4 : GV) (h : Heap) := n11 k (fun x v0 v2 v3 v4 h => kb 1 x fun x => G x v0 v2 v3 v4 h) v0 v2 v3 v4 h
theorem n10_eq (G : KT4 R) : KC k 19 c10 σ h (Q4 G 0 2 3 4) = W4 (n10 k G) 0 2 3 4 σ h := (kblock_eq (a := c11) rfl).trans (n11_eq k σ h (fun x v0 v2 v3 v4 h => kb 1 x fun x => G x v0 v2 v3 v4 h))
@[simp] def n8 (G : KT4 R) (v0 v2 v3 v4 : GV) (h : Heap) := n10 k (fun x v0 v2 v3 v4 h => kx x (n9 k G v0 v2 v3 v4 h) (G x v0 v2 v3 v4 h)) v0 v2 v3 v4 h
theorem n8_eq (G : KT4 R) : KC k 19 c8 σ h (Q4 G 0 2 3 4) = W4 (n8 k G) 0 2 3 4 σ h := (kseq (b := c9) rfl (fun σ h => n9_eq k σ h G)).trans (n10_eq k σ h (fun x v0 v2 v3 v4 h => kx x (n9 k G v0 v2 v3 v4 h) (G x v0 v2 v3 v4 h)))
noncomputable def c12 := cL c7
@[simp] def n7 (G : KT4 R) (v0 v2 v3 v4 : GV) (h : Heap) := (kbin .gtr v4 (.int .i64 0)).bind fun v8 => kcond v8 (n8 k G v0 v2 v3 v4 h) (G (.ext 0) v0 v2 v3 v4 h)
theorem n7_eq (G : KT4 R) : KC k 19 c7 σ h (Q4 G 0 2 3 4) = W4 (n7 k G) 0 2 3 4 σ h := (kseq (a := c12) (b := c8) rfl (fun σ h => n8_eq k σ h G)).trans (by kernel_rfl)
def l6 {R : Type} (k : Nat) (G : KT2 R) : Nat → GV → GV → GV → GV → Heap → Option R
  | 0, _, _, _, _, _ => none
  | r + 1, v0, v2, v3, v4, h => n7 k (fun x v0 v2 v3 v4 h => kx x (l6 k G r v0 v2 v3 v4 h) (G x v2 v3 h)) v0 v2 v3 v4 h
theorem l6_eq {R : Type} (k : Nat) (G : KT2 R) : ∀ (r : Nat) (σ : GS) (h : Heap), kloop (fun σ h K => KC k 19 c7 σ h K) r σ h (Q2 G 2 3) = l6 k G r (σ 0) (σ 2) (σ 3) (σ 4) h
  | 0, _, _ => rfl
  | r + 1, σ, h => (kloop_eq (fun σ h => l6_eq k G r σ h)).trans (n7_eq k σ h (fun x v0 v2 v3 v4 h => kx x (l6 k G r v0 v2 v3 v4 h) (G x v2 v3 h)))
@[simp] def n6 (G : KT2 R) (v0 v2 v3 v4 : GV) (h : Heap) := l6 k G k v0 v2 v3 v4 h
theorem n6_eq (G : KT2 R) : KC k 19 c6 σ h (Q2 G 2 3) = W4 (n6 k G) 0 2 3 4 σ h := (kloopc_eq (a := c7) rfl).trans (l6_eq k G k σ h)
@[simp] def n5 (G : KT2 R) (v0 v2 v3 v4 : GV) (h : Heap) := n6 k (fun x v2 v3 h => kb 0 x fun x => G x v2 v3 h) v0 v2 v3 v4 h
theorem n5_eq (G : KT2 R) : KC k 19 c5 σ h (Q2 G 2 3) = W4 (n5 k G) 0 2 3 4 σ h := (kblock_eq (a := c6) rfl).trans (n6_eq k σ h (fun x v2 v3 h => kb 0 x fun x => G x v2 v3 h))
noncomputable def c13 := cL c4
@[simp] def n4 (G : KT2 R) (v0 v2 v3 : GV) (h : Heap) := (HH fn.spec_l1Below [v0, (.int .i64 9)] h).bind fun r => kr r fun v6 h => n5 k G v0 v2 v3 v6 h
theorem n4_eq (G : KT2 R) : KC k 19 c4 σ h (Q2 G 2 3) = W3 (n4 k G) 0 2 3 σ h := (kseq (a := c13) (b := c5) rfl (fun σ h => n5_eq k σ h G)).trans (by kernel_rfl)
@[simp] def n2 (G : KT1 R) (v0 v2 v3 : GV) (h : Heap) := n4 k (fun x v2 v3 h => kx x (n3 k G v3 h) (G x v2 h)) v0 v2 v3 h
theorem n2_eq (G : KT1 R) : KC k 19 c2 σ h (Q1 G 2) = W3 (n2 k G) 0 2 3 σ h := (kseq (b := c3) rfl (fun σ h => n3_eq k σ h G)).trans (n4_eq k σ h (fun x v2 v3 h => kx x (n3 k G v3 h) (G x v2 h)))
noncomputable def c14 := cL c1
@[simp] def n1 (G : KT1 R) (v0 v2 : GV) (h : Heap) := n2 k G v0 v2 (.str { data := #[] }) h
theorem n1_eq (G : KT1 R) : KC k 19 c1 σ h (Q1 G 2) = W2 (n1 k G) 0 2 σ h := (kseq (a := c14) (b := c2) rfl (fun σ h => n2_eq k σ h G)).trans (by kernel_rfl)
noncomputable def c15 := cL c0
@[simp] def n0 (G : KT1 R) (v0 : GV) (h : Heap) := n1 k G v0 (.str { data := #[] }) h
theorem n0_eq (G : KT1 R) : KC k 19 c0 σ h (Q1 G 2) = n0 k G (σ 0) h := (kseq (a := c15) (b := c1) rfl (fun σ h => n1_eq k σ h G)).trans (by kernel_rfl)
def run {R : Type} (k : Nat) (a0 : GV) (h : Heap) (fin : GV → Heap → Option R) : Option R := n0 k (fun x v2 h => kend x (fin v2 h)) a0 h
theorem gives {k : Nat} {a0 : GV} {h : Heap} {r : GV × Heap} (e : run k a0 h finH = some r) : HH fn.spec_l6DrawText [a0] h = some r := kω_of (((kfun_eq (nt := 19) (c := c0) (show PP.funcs[fn.spec_l6DrawText]? = some Try.f185 by kernel_rfl) (by kernel_rfl) (by kernel_rfl) (fun x σ h => by cases x <;> kernel_rfl)).trans (n0_eq k _ h _)).trans e)
end S.spec_l6DrawText
namespace S.spec_l6Draw
noncomputable def c0 := bodyOf Try.f241
@[simp] def n0 {R : Type} (k : Nat) (G : KT1 R) (v0 : GV) (h : Heap) := kalloc [(.int .i64 0), .nils, (.int .i64 0), .nils] h fun v2 h => (kF false HH fn.spec_l6State [(.int .i64 1)] h).bind fun r => kr r fun v6 h => (HH fn.spec_l6DrawText [v0] h).bind fun r => kr r fun v8 h => (gfill (fun i => some (i * 1, 1)) (zeros [(.str { data := #[] })] 7) [(0, (.str { data := #[] })), (1, (.str { data := #[27] })), (2, (.str { data := #[27, 91] })), (3, (.str { data := #[27, 91, 49, 50, 59] })), (4, (.str { data := #[27, 91, 63, 51] })), (5, (.str { data := #[27, 93, 97, 98] })), (6, (.str { data := #[27, 93, 97, 27] }))]).bind fun c => kbs 7 1 c h fun v9 h => (HH fn.spec_l1Below [v0, (.int .i64 7)] h).bind fun r => kr r fun v11 h => (kia 1 v9 v11).bind fun v12 => (kload1 h v12).bind fun v13 => (kbin .add v8 v13).bind fun v14 => (kF false HH fn.spec_Runes [v14] h).bind fun r => kr r fun v15 h => (kF false HH fn.spec_Parsed [v6, v15] h).bind fun r => kr r fun v16 h => (kxt 0 v16).bind fun v17 => (kxt 1 v16).bind fun v18 => kalloc [(.int .i64 0), .nils, (.int .i64 0), .nils] h fun v3 h => (kstore 4 h v3 v17).bind fun h => (kloadA 4 h v3).bind fun v19 => (kstore 4 h v2 v19).bind fun h => G .ret v2 h
theorem n0_eq (G : KT1 R) : KC k 20 c0 σ h (Q1 G 2) = n0 k G (σ 0) h := by kernel_rfl
def run {R : Type} (k : Nat) (a0 : GV) (h : Heap) (fin : GV → Heap → Option R) : Option R := n0 k (fun x v2 h => kend x ((kloadA 4 h v2).bind fun w2 => fin w2 h)) a0 h
theorem gives {k : Nat} {a0 : GV} {h : Heap} {r : GV × Heap} (e : run k a0 h finH = some r) : HH fn.spec_l6Draw [a0] h = some r := kω_of (((kfun_eq (nt := 20) (c := c0) (show PP.funcs[fn.spec_l6Draw]? = some Try.f241 by kernel_rfl) (by kernel_rfl) (by kernel_rfl) (fun x σ h => by cases x <;> kernel_rfl)).trans (n0_eq k _ h _)).trans e)
end S.spec_l6Draw
namespace S.spec_l6DrawAny
noncomputable def c0 := bodyOf Try.f182
noncomputable def c1 := cR c0
noncomputable def c2 := cR c1
noncomputable def c3 := cR c2
@[simp] def n3 {R : Type} (k : Nat) (G : KT1 R) (v2 v3 : GV) (h : Heap) := (kloadA 4 h v3).bind fun v47 => (kstore 4 h v2 v47).bind fun h => G .ret v2 h
theorem n3_eq (G : KT1 R) : KC k 48 c3 σ h (Q1 G 2) = W2 (n3 k G) 2 3 σ h := by kernel_rfl
noncomputable def c4 := cL c2
noncomputable def c5 := cR c4
noncomputable def c6 := cL c5
noncomputable def c7 := cR c6
noncomputable def c8 := cL c7
noncomputable def c9 := cR c8
noncomputable def c10 := cL c9
@[simp] def n10 {R : Type} (k : Nat) (G : KT2 R) (v0 v2 v3 : GV) (h : Heap) := (HH fn.spec_l1From [v0, (.int .i64 0), (.int .i64 7)] h).bind fun r => kr r fun v13 h => (kfa 0 v3).bind fun v14 => (kstore 1 h v14 v13).bind fun h => G .nrm v2 v3 h
theorem n10_eq (G : KT2 R) : KC k 48 c10 σ h (Q2 G 2 3) = W3 (n10 k G) 0 2 3 σ h := by kernel_rfl
noncomputable def c11 := cR c9
noncomputable def c12 := cR c11
noncomputable def c13 := cL c12
noncomputable def o13 : Array Oper := cO c13
@[simp] def g13_0 {R : Type} (k : Nat) (G : KT2 R) (v0 v2 v3 : GV) (rs : List Rec) (h : Heap) := (kfa 1 v3).bind fun v17 => kold h fun h0 => (kload1 h v17).bind fun v18 => krs (rs ++ [⟨1, h0.length, h.length, ⟨kblk v17, []⟩⟩]) fun rs => kold h fun h0 => (gfill (fun i => some (i * 1, 1)) (zeros [(.int .i64 0)] 4) [(0, (.int .i64 (-1))), (1, (.int .i64 0)), (2, (.int .i64 9999)), (3, (.int .i64 10000))]).bind fun c => kbs 4 1 c h fun v19 h => krs (rs ++ [⟨2, h0.length, h.length, ⟨[], []⟩⟩]) fun rs => kold h fun h0 => kchk (kflat h0 [v0, (.int .i64 4)]) <| (HH fn.spec_l1Below [v0, (.int .i64 4)] h).bind fun r => kr r fun v21 h => krs (rs ++ [⟨4, h0.length, h.length, ⟨kreach h0 [v0, (.int .i64 4)], kreach h0 [v0, (.int .i64 4)]⟩⟩]) fun rs => (kia 1 v19 v21).bind fun v22 => (kload1 h v22).bind fun v23 => (gfill (fun i => some (i * 1, 1)) (zeros [(.int .i64 0)] 1) [(0, v23)]).bind fun c => kbs 1 1 c h fun v24 h => (kapp [(.int .i64 0)] 1 8 v18 v24 h).bind fun r => kr r fun v25 h => (kfa 1 v3).bind fun v26 => (kstore 1 h v26 v25).bind fun h => bif chk [(1, 4), (2, 4)] rs then G .nrm v2 v3 h else none
theorem g13_0_eq (G : KT2 R) (rs : List Rec) (σ : GS) (h : Heap) : kgroupsD PP cfg NN HH 48 o13 [(1, 4), (2, 4)] [(none, [0, 1, 2, 3, 4, 5, 6, 7, 8, 9, 10])] rs σ h (fun rs σ h => bif chk [(1, 4), (2, 4)] rs then G .nrm (σ 2) (σ 3) h else none) = g13_0 k G (σ 0) (σ 2) (σ 3) rs h := by kernel_rfl
@[simp] def n13 (G : KT2 R) (v0 v2 v3 : GV) (h : Heap) := g13_0 k G v0 v2 v3 [] h
theorem n13_eq (G : KT2 R) : KC k 48 c13 σ h (Q2 G 2 3) = W3 (n13 k G) 0 2 3 σ h := (kregionD_eq (id := 7) (draw := true) (ops := o13) (gs := [(none, [0, 1, 2, 3, 4, 5, 6, 7, 8, 9, 10])]) (bad := [(1, 4), (2, 4)]) (by kernel_rfl) (by kernel_rfl) (by kernel_rfl) (by kernel_rfl) (by kernel_rfl)).trans (g13_0_eq k G [] σ h)
noncomputable def c14 := cR c12
noncomputable def c15 := cR c14
noncomputable def c16 := cL c15
@[simp] def n16 {R : Type} (k : Nat) (G : KT2 R) (v0 v2 v3 : GV) (h : Heap) := (gfill (fun i => some (i * 1, 1)) (zeros [(.int .i64 0)] 3) [(0, (.int .i64 62)), (1, (.int .i64 63)), (2, (.int .i64 (-1)))]).bind fun c => kbs 3 1 c h fun v29 h => (HH fn.spec_l1Below [v0, (.int .i64 3)] h).bind fun r => kr r fun v31 h => (kia 1 v29 v31).bind fun v32 => (kload1 h v32).bind fun v33 => (kfa 2 v3).bind fun v34 => (kstore 1 h v34 v33).bind fun h => G .nrm v2 v3 h
theorem n16_eq (G : KT2 R) : KC k 48 c16 σ h (Q2 G 2 3) = W3 (n16 k G) 0 2 3 σ h := by kernel_rfl
noncomputable def c17 := cR c15
noncomputable def c18 := cR c17
noncomputable def c19 := cL c18
noncomputable def o19 : Array Oper := cO c19
@[simp] def g19_0 {R : Type} (k : Nat) (G : KT2 R) (v0 v2 v3 : GV) (rs : List Rec) (h : Heap) := (kfa 3 v3).bind fun v37 => kold h fun h0 => (kload1 h v37).bind fun v38 => krs (rs ++ [⟨1, h0.length, h.length, ⟨kblk v37, []⟩⟩]) fun rs => kold h fun h0 => (gfill (fun i => some (i * 1, 1)) (zeros [(.int .i64 0)] 3) [(0, (.int .i64 (-1))), (1, (.int .i64 97)), (2, (.int .i64 55296))]).bind fun c => kbs 3 1 c h fun v39 h => krs (rs ++ [⟨2, h0.length, h.length, ⟨[], []⟩⟩]) fun rs => kold h fun h0 => kchk (kflat h0 [v0, (.int .i64 3)]) <| (HH fn.spec_l1Below [v0, (.int .i64 3)] h).bind fun r => kr r fun v41 h => krs (rs ++ [⟨4, h0.length, h.length, ⟨kreach h0 [v0, (.int .i64 3)], kreach h0 [v0, (.int .i64 3)]⟩⟩]) fun rs => (kia 1 v39 v41).bind fun v42 => (kload1 h v42).bind fun v43 => (gfill (fun i => some (i * 1, 1)) (zeros [(.int .i64 0)] 1) [(0, v43)]).bind fun c => kbs 1 1 c h fun v44 h => (kapp [(.int .i64 0)] 1 8 v38 v44 h).bind fun r => kr r fun v45 h => (kfa 3 v3).bind fun v46 => (kstore 1 h v46 v45).bind fun h => bif chk [(1, 4), (2, 4)] rs then G .nrm v2 v3 h else none
theorem g19_0_eq (G : KT2 R) (rs : List Rec) (σ : GS) (h : Heap) : kgroupsD PP cfg NN HH 48 o19 [(1, 4), (2, 4)] [(none, [0, 1, 2, 3, 4, 5, 6, 7, 8, 9, 10])] rs σ h (fun rs σ h => bif chk [(1, 4), (2, 4)] rs then G .nrm (σ 2) (σ 3) h else none) = g19_0 k G (σ 0) (σ 2) (σ 3) rs h := by kernel_rfl
@[simp] def n19 (G : KT2 R) (v0 v2 v3 : GV) (h : Heap) := g19_0 k G v0 v2 v3 [] h
theorem n19_eq (G : KT2 R) : KC k 48 c19 σ h (Q2 G 2 3) = W3 (n19 k G) 0 2 3 σ h := (kregionD_eq (id := 11) (draw := true) (ops := o19) (gs := [(none, [0, 1, 2, 3, 4, 5, 6, 7, 8, 9, 10])]) (bad := [(1, 4), (2, 4)]) (by kernel_rfl) (by kernel_rfl) (by kernel_rfl) (by kernel_rfl) (by kernel_rfl)).trans (g19_0_eq k G [] σ h)
noncomputable def c20 := cR c18
@[simp] def n20 {R : Type} (k : Nat) (G : KT2 R) (v2 v3 : GV) (h : Heap) := G .nrm v2 v3 h
theorem n20_eq (G : KT2 R) : KC k 48 c20 σ h (Q2 G 2 3) = W2 (n20 k G) 2 3 σ h := by kernel_rfl
@[simp] def n18 (G : KT2 R) (v0 v2 v3 v35 : GV) (h : Heap) := kcond v35 (n19 k G v0 v2 v3 h) (n20 k G v2 v3 h)
theorem n18_eq (G : KT2 R) : KC k 48 c18 σ h (Q2 G 2 3) = W4 (n18 k G) 0 2 3 35 σ h := (kcond_eq (a := c19) (b := c20) rfl (by rfl)).trans (congr (congrArg (kcond (σ 35)) (n19_eq k σ h G)) (n20_eq k σ h G))
noncomputable def c21 := cL c17
@[simp] def n17 (G : KT2 R) (v0 v2 v3 v9 : GV) (h : Heap) := (kbin .eql v9 (.int .i64 3)).bind fun v36 => n18 k G v0 v2 v3 v36 h
theorem n17_eq (G : KT2 R) : KC k 48 c17 σ h (Q2 G 2 3) = W4 (n17 k G) 0 2 3 9 σ h := (kseq (a := c21) (b := c18) rfl (fun σ h => n18_eq k σ h G)).trans (by kernel_rfl)
@[simp] def n15 (G : KT2 R) (v0 v2 v3 v9 v27 : GV) (h : Heap) := kcond v27 (n16 k G v0 v2 v3 h) (n17 k G v0 v2 v3 v9 h)
theorem n15_eq (G : KT2 R) : KC k 48 c15 σ h (Q2 G 2 3) = W5 (n15 k G) 0 2 3 9 27 σ h := (kcond_eq (a := c16) (b := c17) rfl (by rfl)).trans (congr (congrArg (kcond (σ 27)) (n16_eq k σ h G)) (n17_eq k σ h G))
noncomputable def c22 := cL c14
@[simp] def n14 (G : KT2 R) (v0 v2 v3 v9 : GV) (h : Heap) := (kbin .eql v9 (.int .i64 2)).bind fun v28 => n15 k G v0 v2 v3 v9 v28 h
theorem n14_eq (G : KT2 R) : KC k 48 c14 σ h (Q2 G 2 3) = W4 (n14 k G) 0 2 3 9 σ h := (kseq (a := c22) (b := c15) rfl (fun σ h => n15_eq k σ h G)).trans (by kernel_rfl)
@[simp] def n12 (G : KT2 R) (v0 v2 v3 v9 v15 : GV) (h : Heap) := kcond v15 (n13 k G v0 v2 v3 h) (n14 k G v0 v2 v3 v9 h)
theorem n12_eq (G : KT2 R) : KC k 48 c12 σ h (Q2 G 2 3) = W5 (n12 k G) 0 2 3 9 15 σ h := (kcond_eq (a := c13) (b := c14) rfl (by rfl)).trans (congr (congrArg (kcond (σ 15)) (n13_eq k σ h G)) (n14_eq k σ h G))
noncomputable def c23 := cL c11
@[simp] def n11 (G : KT2 R) (v0 v2 v3 v9 : GV) (h : Heap) := (kbin .eql v9 (.int .i64 1)).bind fun v16 => n12 k G v0 v2 v3 v9 v16 h
theorem n11_eq (G : KT2 R) : KC k 48 c11 σ h (Q2 G 2 3) = W4 (n11 k G) 0 2 3 9 σ h := (kseq (a := c23) (b := c12) rfl (fun σ h => n12_eq k σ h G)).trans (by kernel_rfl)
@[simp] def n9 (G : KT2 R) (v0 v2 v3 v9 v10 : GV) (h : Heap) := kcond v10 (n10 k G v0 v2 v3 h) (n11 k G v0 v2 v3 v9 h)
theorem n9_eq (G : KT2 R) : KC k 48 c9 σ h (Q2 G 2 3) = W5 (n9 k G) 0 2 3 9 10 σ h := (kcond_eq (a := c10) (b := c11) rfl (by rfl)).trans (congr (congrArg (kcond (σ 10)) (n10_eq k σ h G)) (n11_eq k σ h G))
noncomputable def c24 := cL c8
@[simp] def n8 (G : KT2 R) (v0 v2 v3 v9 : GV) (h : Heap) := (kbin .eql v9 (.int .i64 0)).bind fun v11 => n9 k G v0 v2 v3 v9 v11 h
theorem n8_eq (G : KT2 R) : KC k 48 c8 σ h (Q2 G 2 3) = W4 (n8 k G) 0 2 3 9 σ h := (kseq (a := c24) (b := c9) rfl (fun σ h => n9_eq k σ h G)).trans (by kernel_rfl)
@[simp] def n7 (G : KT2 R) (v0 v2 v3 v9 : GV) (h : Heap) := n8 k (fun x v2 v3 h => kb 0 x fun x => G x v2 v3 h) v0 v2 v3 v9 h
theorem n7_eq (G : KT2 R) : KC k 48 c7 σ h (Q2 G 2 3) = W4 (n7 k G) 0 2 3 9 σ h := (kblock_eq (a := c8) rfl).trans (n8_eq k σ h (fun x v2 v3 h => kb 0 x fun x => G x v2 v3 h))
noncomputable def c25 := cL c6
@[simp] def n6 (G : KT2 R) (v0 v2 v3 : GV) (h : Heap) := (HH fn.spec_l1Below [v0, (.int .i64 4)] h).bind fun r => kr r fun v9 h => n7 k G v0 v2 v3 v9 h
theorem n6_eq (G : KT2 R) : KC k 48 c6 σ h (Q2 G 2 3) = W3 (n6 k G) 0 2 3 σ h := (kseq (a := c25) (b := c7) rfl (fun σ h => n7_eq k σ h G)).trans (by kernel_rfl)
noncomputable def c26 := cR c5
@[simp] def n26 {R : Type} (k : Nat) (G : KT2 R) (v2 v3 : GV) (h : Heap) := G .nrm v2 v3 h
theorem n26_eq (G : KT2 R) : KC k 48 c26 σ h (Q2 G 2 3) = W2 (n26 k G) 2 3 σ h := by kernel_rfl
@[simp] def n5 (G : KT2 R) (v0 v2 v3 v7 : GV) (h : Heap) := kcond v7 (n6 k G v0 v2 v3 h) (n26 k G v2 v3 h)
theorem n5_eq (G : KT2 R) : KC k 48 c5 σ h (Q2 G 2 3) = W4 (n5 k G) 0 2 3 7 σ h := (kcond_eq (a := c6) (b := c26) rfl (by rfl)).trans (congr (congrArg (kcond (σ 7)) (n6_eq k σ h G)) (n26_eq k σ h G))
noncomputable def c27 := cL c4
@[simp] def n4 (G : KT2 R) (v0 v2 v3 : GV) (h : Heap) := (HH fn.spec_l1Once [v0, (.int .i64 12)] h).bind fun r => kr r fun v7 h => n5 k G v0 v2 v3 v7 h
theorem n4_eq (G : KT2 R) : KC k 48 c4 σ h (Q2 G 2 3) = W3 (n4 k G) 0 2 3 σ h := (kseq (a := c27) (b := c5) rfl (fun σ h => n5_eq k σ h G)).trans (by kernel_rfl)
@[simp] def n2 (G : KT1 R) (v0 v2 v3 : GV) (h : Heap) := n4 k (fun x v2 v3 h => kx x (n3 k G v2 v3 h) (G x v2 h)) v0 v2 v3 h
theorem n2_eq (G : KT1 R) : KC k 48 c2 σ h (Q1 G 2) = W3 (n2 k G) 0 2 3 σ h := (kseq (b := c3) rfl (fun σ h => n3_eq k σ h G)).trans (n4_eq k σ h (fun x v2 v3 h => kx x (n3 k G v2 v3 h) (G x v2 h)))
noncomputable def c28 := cL c1
@[simp] def n1 (G : KT1 R) (v0 v2 : GV) (h : Heap) := (HH fn.spec_l6Draw [v0] h).bind fun r => kr r fun v5 h => kalloc [(.int .i64 0), .nils, (.int .i64 0), .nils] h fun v3 h => (kstore 4 h v3 v5).bind fun h => n2 k G v0 v2 v3 h
theorem n1_eq (G : KT1 R) : KC k 48 c1 σ h (Q1 G 2) = W2 (n1 k G) 0 2 σ h := (kseq (a := c28) (b := c2) rfl (fun σ h => n2_eq k σ h G)).trans (by kernel_rfl)
noncomputable def c29 := cL c0
@[simp] def n0 (G : KT1 R) (v0 : GV) (h : Heap) := kalloc [(.int .i64 0), .nils, (.int .i64 0), .nils] h fun v2 h => n1 k G v0 v2 h
theorem n0_eq (G : KT1 R) : KC k 48 c0 σ h (Q1 G 2) = n0 k G (σ 0) h := (kseq (a := c29) (b := c1) rfl (fun σ h => n1_eq k σ h G)).trans (by kernel_rfl)
def run {R : Type} (k : Nat) (a0 : GV) (h : Heap) (fin : GV → Heap → Option R) : Option R := n0 k (fun x v2 h => kend x ((kloadA 4 h v2).bind fun w2 => fin w2 h)) a0 h
theorem gives {k : Nat} {a0 : GV} {h : Heap} {r : GV × Heap} (e : run k a0 h finH = some r) : HH fn.spec_l6DrawAny [a0] h = some r := kω_of (((kfun_eq (nt := 48) (c := c0) (show PP.funcs[fn.spec_l6DrawAny]? = some Try.f182 by kernel_rfl) (by kernel_rfl) (by kernel_rfl) (fun x σ h => by cases x <;> kernel_rfl)).trans (n0_eq k _ h _)).trans e)
end S.spec_l6DrawAny
namespace S.spec_DrawStep
noncomputable def c0 := bodyOf Try.f87
noncomputable def c1 := cR c0
noncomputable def c2 := cR c1
noncomputable def c3 := cR c2
noncomputable def c4 := cR c3
noncomputable def c5 := cR c4
@[simp] def n5 {R : Type} (k : Nat) (G : KT2 R) (v2 v3 : GV) (h : Heap) := G .ret v2 v3 h
theorem n5_eq (G : KT2 R) : KC k 21 c5 σ h (Q2 G 2 3) = W2 (n5 k G) 2 3 σ h := by kernel_rfl
noncomputable def c6 := cL c4
noncomputable def o6 : Array Oper := cO c6
@[simp] def g6_0 {R : Type} (k : Nat) (G : KT2 R) (v2 v4 v5 : GV) (rs : List Rec) (h : Heap) := kold h fun h0 => (kloadA 4 h v5).bind fun v15 => krs (rs ++ [⟨0, h0.length, h.length, ⟨kblk v5, []⟩⟩]) fun rs => kold h fun h0 => (gfill (fun i => some (i * 1, 1)) (zeros [(.int .i64 0)] 16) [(0, (.int .i64 97)), (1, (.int .i64 91)), (2, (.int .i64 93)), (3, (.int .i64 63)), (4, (.int .i64 59)), (5, (.int .i64 53)), (6, (.int .i64 72)), (7, (.int .i64 27)), (8, (.int .i64 7)), (9, (.int .i64 24)), (10, (.int .i64 10)), (11, (.int .i64 92)), (12, (.int .i64 127)), (13, (.int .i64 769)), (14, (.int .i64 19968)), (15, (.int .i64 109))]).bind fun c => kbs 16 1 c h fun v16 h => krs (rs ++ [⟨1, h0.length, h.length, ⟨[], []⟩⟩]) fun rs => kold h fun h0 => kchk (kflat h0 [v4, (.int .i64 16)]) <| (HH fn.spec_l1Below [v4, (.int .i64 16)] h).bind fun r => kr r fun v18 h => krs (rs ++ [⟨3, h0.length, h.length, ⟨kreach h0 [v4, (.int .i64 16)], kreach h0 [v4, (.int .i64 16)]⟩⟩]) fun rs => (kia 1 v16 v18).bind fun v19 => kold h fun h0 => (kload1 h v19).bind fun v20 => krs (rs ++ [⟨5, h0.length, h.length, ⟨kblk v19, []⟩⟩]) fun rs => kold h fun h0 => (kstore 4 h v2 v15).bind fun h => krs (rs ++ [⟨6, h0.length, h.length, ⟨[], kblk v2⟩⟩]) fun rs => bif chk [(0, 3), (1, 3), (1, 6), (5, 6)] rs then G .nrm v2 v20 h else none
theorem g6_0_eq (G : KT2 R) (rs : List Rec) (σ : GS) (h : Heap) : kgroupsD PP cfg NN HH 21 o6 [(0, 3), (1, 3), (1, 6), (5, 6)] [(none, [0, 1, 2, 3, 4, 5, 6, 7])] rs σ h (fun rs σ h => bif chk [(0, 3), (1, 3), (1, 6), (5, 6)] rs then G .nrm (σ 2) (σ 3) h else none) = g6_0 k G (σ 2) (σ 4) (σ 5) rs h := by kernel_rfl
@[simp] def n6 (G : KT2 R) (v2 v4 v5 : GV) (h : Heap) := g6_0 k G v2 v4 v5 [] h
theorem n6_eq (G : KT2 R) : KC k 21 c6 σ h (Q2 G 2 3) = W3 (n6 k G) 2 4 5 σ h := (kregionD_eq (id := 5) (draw := true) (ops := o6) (gs := [(none, [0, 1, 2, 3, 4, 5, 6, 7])]) (bad := [(0, 3), (1, 3), (1, 6), (5, 6)]) (by kernel_rfl) (by kernel_rfl) (by kernel_rfl) (by kernel_rfl) (by kernel_rfl)).trans (g6_0_eq k G [] σ h)
@[simp] def n4 (G : KT2 R) (v2 v4 v5 : GV) (h : Heap) := n6 k (fun x v2 v3 h => kx x (n5 k G v2 v3 h) (G x v2 v3 h)) v2 v4 v5 h
theorem n4_eq (G : KT2 R) : KC k 21 c4 σ h (Q2 G 2 3) = W3 (n4 k G) 2 4 5 σ h := (kseq (b := c5) rfl (fun σ h => n5_eq k σ h G)).trans (n6_eq k σ h (fun x v2 v3 h => kx x (n5 k G v2 v3 h) (G x v2 v3 h)))
noncomputable def c7 := cL c3
@[simp] def n3 (G : KT2 R) (v0 v2 v3 v4 v5 : GV) (h : Heap) := (HH fn.spec_l1Once [v4, (.int .i64 10)] h).bind fun r => kr r fun v11 h => kcond v11 ((kloadA 4 h v5).bind fun v12 => (kN NN fn.spec_DrawRuneOk [v0] h).bind fun v14 => (kstore 4 h v2 v12).bind fun h => G .ret v2 v14 h) (n4 k G v2 v4 v5 h)
theorem n3_eq (G : KT2 R) : KC k 21 c3 σ h (Q2 G 2 3) = W5 (n3 k G) 0 2 3 4 5 σ h := (kseq (a := c7) (b := c4) rfl (fun σ h => n4_eq k σ h G)).trans (by kernel_rfl)
noncomputable def c8 := cL c2
@[simp] def n2 (G : KT2 R) (v0 v2 v3 v4 : GV) (h : Heap) := (HH fn.spec_l6DrawAny [v4] h).bind fun r => kr r fun v9 h => kalloc [(.int .i64 0), .nils, (.int .i64 0), .nils] h fun v5 h => (kstore 4 h v5 v9).bind fun h => n3 k G v0 v2 v3 v4 v5 h
theorem n2_eq (G : KT2 R) : KC k 21 c2 σ h (Q2 G 2 3) = W4 (n2 k G) 0 2 3 4 σ h := (kseq (a := c8) (b := c3) rfl (fun σ h => n3_eq k σ h G)).trans (by kernel_rfl)
noncomputable def c9 := cL c1
@[simp] def n1 (G : KT2 R) (v0 v2 v3 : GV) (h : Heap) := (HH fn.spec_l1New [v0] h).bind fun r => kr r fun v7 h => n2 k G v0 v2 v3 v7 h
theorem n1_eq (G : KT2 R) : KC k 21 c1 σ h (Q2 G 2 3) = W3 (n1 k G) 0 2 3 σ h := (kseq (a := c9) (b := c2) rfl (fun σ h => n2_eq k σ h G)).trans (by kernel_rfl)
noncomputable def c10 := cL c0
@[simp] def n0 (G : KT2 R) (v0 : GV) (h : Heap) := kalloc [(.int .i64 0), .nils, (.int .i64 0), .nils] h fun v2 h => n1 k G v0 v2 (.int .i64 0) h
theorem n0_eq (G : KT2 R) : KC k 21 c0 σ h (Q2 G 2 3) = n0 k G (σ 0) h := (kseq (a := c10) (b := c1) rfl (fun σ h => n1_eq k σ h G)).trans (by kernel_rfl)
def run {R : Type} (k : Nat) (a0 : GV) (h : Heap) (fin : GV → Heap → Option R) : Option R := n0 k (fun x v2 v3 h => kend x ((kloadA 4 h v2).bind fun w2 => fin (.tup [w2, v3]) h)) a0 h
theorem gives {k : Nat} {a0 : GV} {v : GV} (e : run k a0 [] finN = some v) : NN fn.spec_DrawStep [a0] = some v := nω_of (by kernel_rfl) (((kfun_eq (nt := 21) (c := c0) (show PP.funcs[fn.spec_DrawStep]? = some Try.f87 by kernel_rfl) (by kernel_rfl) (by kernel_rfl) (fun x σ h => by cases x <;> kernel_rfl)).trans (n0_eq k _ [] _)).trans e)
end S.spec_DrawStep
namespace S.spec_DrawParsed
noncomputable def c0 := bodyOf Try.f88
noncomputable def c1 := cR c0
noncomputable def c2 := cR c1
noncomputable def c3 := cR c2
noncomputable def c4 := cR c3
noncomputable def c5 := cR c4
noncomputable def c6 := cR c5
@[simp] def n6 {R : Type} (k : Nat) (G : KT2 R) (v2 v5 v6 : GV) (h : Heap) := (kloadA 4 h v5).bind fun v25 => (kstore 4 h v2 v25).bind fun h => G .ret v2 v6 h
theorem n6_eq (G : KT2 R) : KC k 27 c6 σ h (Q2 G 2 3) = W3 (n6 k G) 2 5 6 σ h := by kernel_rfl
noncomputable def c7 := cL c5
@[simp] def n5 (G : KT2 R) (v2 v3 v4 v5 v6 : GV) (h : Heap) := (HH fn.spec_l1Once [v4, (.int .i64 60)] h).bind fun r => kr r fun v20 h => kcond v20 ((HH fn.spec_l1Below [v4, (.int .i64 2)] h).bind fun r => kr r fun v22 h => (kbin .add (.int .i64 2000) v22).bind fun v23 => (kmake [(.int .i64 0)] 1 8 v23 v23 h).bind fun r => kr r fun v24 h => n6 k G v2 v5 v24 h) (n6 k G v2 v5 v6 h)
theorem n5_eq (G : KT2 R) : KC k 27 c5 σ h (Q2 G 2 3) = W5 (n5 k G) 2 3 4 5 6 σ h := (kseq (a := c7) (b := c6) rfl (fun σ h => n6_eq k σ h G)).trans (by kernel_rfl)
noncomputable def c8 := cL c4
@[simp] def n4 (G : KT2 R) (v2 v3 v4 v5 v6 : GV) (h : Heap) := (HH fn.spec_l1Once [v4, (.int .i64 20)] h).bind fun r => kr r fun v15 h => kcond v15 ((gfill (fun i => some (i * 1, 1)) (zeros [(.int .i64 0)] 1) [(0, (.int .i64 (-1)))]).bind fun c => kbs 1 1 c h fun v17 h => (kapp [(.int .i64 0)] 1 8 v6 v17 h).bind fun r => kr r fun v18 h => n5 k G v2 v3 v4 v5 v18 h) (n5 k G v2 v3 v4 v5 v6 h)
theorem n4_eq (G : KT2 R) : KC k 27 c4 σ h (Q2 G 2 3) = W5 (n4 k G) 2 3 4 5 6 σ h := (kseq (a := c8) (b := c5) rfl (fun σ h => n5_eq k σ h G)).trans (by kernel_rfl)
noncomputable def c9 := cL c3
@[simp] def n3 (G : KT2 R) (v2 v3 v4 v5 : GV) (h : Heap) := (HH fn.spec_l6DrawText [v4] h).bind fun r => kr r fun v12 h => (kF false HH fn.spec_Runes [v12] h).bind fun r => kr r fun v13 h => n4 k G v2 v3 v4 v5 v13 h
theorem n3_eq (G : KT2 R) : KC k 27 c3 σ h (Q2 G 2 3) = W4 (n3 k G) 2 3 4 5 σ h := (kseq (a := c9) (b := c4) rfl (fun σ h => n4_eq k σ h G)).trans (by kernel_rfl)
noncomputable def c10 := cL c2
@[simp] def n2 (G : KT2 R) (v2 v3 v4 : GV) (h : Heap) := (HH fn.spec_l6DrawAny [v4] h).bind fun r => kr r fun v10 h => kalloc [(.int .i64 0), .nils, (.int .i64 0), .nils] h fun v5 h => (kstore 4 h v5 v10).bind fun h => n3 k G v2 v3 v4 v5 h
theorem n2_eq (G : KT2 R) : KC k 27 c2 σ h (Q2 G 2 3) = W3 (n2 k G) 2 3 4 σ h := (kseq (a := c10) (b := c3) rfl (fun σ h => n3_eq k σ h G)).trans (by kernel_rfl)
noncomputable def c11 := cL c1
@[simp] def n1 (G : KT2 R) (v0 v2 v3 : GV) (h : Heap) := (HH fn.spec_l1New [v0] h).bind fun r => kr r fun v8 h => n2 k G v2 v3 v8 h
theorem n1_eq (G : KT2 R) : KC k 27 c1 σ h (Q2 G 2 3) = W3 (n1 k G) 0 2 3 σ h := (kseq (a := c11) (b := c2) rfl (fun σ h => n2_eq k σ h G)).trans (by kernel_rfl)
noncomputable def c12 := cL c0
@[simp] def n0 (G : KT2 R) (v0 : GV) (h : Heap) := kalloc [(.int .i64 0), .nils, (.int .i64 0), .nils] h fun v2 h => n1 k G v0 v2 .nils h
theorem n0_eq (G : KT2 R) : KC k 27 c0 σ h (Q2 G 2 3) = n0 k G (σ 0) h := (kseq (a := c12) (b := c1) rfl (fun σ h => n1_eq k σ h G)).trans (by kernel_rfl)
def run {R : Type} (k : Nat) (a0 : GV) (h : Heap) (fin : GV → Heap → Option R) : Option R := n0 k (fun x v2 v3 h => kend x ((kloadA 4 h v2).bind fun w2 => fin (.tup [w2, v3]) h)) a0 h
theorem gives {k : Nat} {a0 : GV} {v : GV} (e : run k a0 [] finN = some v) : NN fn.spec_DrawParsed [a0] = some v := nω_of (by kernel_rfl) (((kfun_eq (nt := 27) (c := c0) (show PP.funcs[fn.spec_DrawParsed]? = some Try.f88 by kernel_rfl) (by kernel_rfl) (by kernel_rfl) (fun x σ h => by cases x <;> kernel_rfl)).trans (n0_eq k _ [] _)).trans e)
end S.spec_DrawParsed
namespace S.laws_big
noncomputable def c0 := bodyOf Try.f21
@[simp] def n0 {R : Type} (k : Nat) (G : KT1 R) (v0 : GV) (h : Heap) := (klen v0).bind fun v4 => (kbin .gtr v4 (.int .i64 4096)).bind fun v5 => G .ret v5 h
theorem n0_eq (G : KT1 R) : KC k 6 c0 σ h (Q1 G 2) = n0 k G (σ 0) h := by kernel_rfl
def run {R : Type} (k : Nat) (a0 : GV) (h : Heap) (fin : GV → Heap → Option R) : Option R := n0 k (fun x v2 h => kend x (fin v2 h)) a0 h
theorem gives {k : Nat} {a0 : GV} {v : GV} (e : run k a0 [] finN = some v) : NN fn.laws_big [a0] = some v := nω_of (by kernel_rfl) (((kfun_eq (nt := 6) (c := c0) (show PP.funcs[fn.laws_big]? = some Try.f21 by kernel_rfl) (by kernel_rfl) (by kernel_rfl) (fun x σ h => by cases x <;> kernel_rfl)).trans (n0_eq k _ [] _)).trans e)
end S.laws_big
namespace S.laws_pick
noncomputable def c0 := bodyOf Try.f27
noncomputable def c1 := cR c0
noncomputable def c2 := cR c1
noncomputable def c3 := cR c2
@[simp] def n3 {R : Type} (k : Nat) (G : KT1 R) (v2 v7 : GV) (h : Heap) := (kbin .rem v7 v2).bind fun v33 => G .ret v33 h
theorem n3_eq (G : KT1 R) : KC k 34 c3 σ h (Q1 G 6) = W2 (n3 k G) 2 7 σ h := by kernel_rfl
noncomputable def c4 := cL c2
noncomputable def c5 := cR c4
noncomputable def c6 := cL c5
noncomputable def c7 := cL c6
noncomputable def c8 := cR c7
noncomputable def c9 := cR c8
@[simp] def n9 {R : Type} (k : Nat) (G : KT6 R) (v0 v1 v2 v6 v7 v8 : GV) (h : Heap) := (kbin .add v8 (.int .i64 1)).bind fun v19 => G .nrm v0 v1 v2 v6 v7 v19 h
theorem n9_eq (G : KT6 R) : KC k 34 c9 σ h (Q6 G 0 1 2 6 7 8) = W6 (n9 k G) 0 1 2 6 7 8 σ h := by kernel_rfl
noncomputable def c10 := cL c8
noncomputable def c11 := cL c10
@[simp] def n11 {R : Type} (k : Nat) (G : KT6 R) (v0 v1 v2 v6 v7 v8 : GV) (h : Heap) := (kbin .mul v7 (.int .i64 127)).bind fun v21 => (kia 1 v0 v8).bind fun v24 => (kload1 h v24).bind fun v25 => (kconvI .i64 v25).bind fun v26 => (kbin .add v21 v26).bind fun v27 => (kbin .add v27 v1).bind fun v29 => (kbin .rem v29 (.int .i64 1000003)).bind fun v30 => G .nrm v0 v1 v2 v6 v30 v8 h
theorem n11_eq (G : KT6 R) : KC k 34 c11 σ h (Q6 G 0 1 2 6 7 8) = W6 (n11 k G) 0 1 2 6 7 8 σ h := by kernel_rfl
@[simp] def n10 (G : KT6 R) (v0 v1 v2 v6 v7 v8 : GV) (h : Heap) := n11 k (fun x v0 v1 v2 v6 v7 v8 h => kb 1 x fun x => G x v0 v1 v2 v6 v7 v8 h) v0 v1 v2 v6 v7 v8 h
theorem n10_eq (G : KT6 R) : KC k 34 c10 σ h (Q6 G 0 1 2 6 7 8) = W6 (n10 k G) 0 1 2 6 7 8 σ h := (kblock_eq (a := c11) rfl).trans (n11_eq k σ h (fun x v0 v1 v2 v6 v7 v8 h => kb 1 x fun x => G x v0 v1 v2 v6 v7 v8 h))
@[simp] def n8 (G : KT6 R) (v0 v1 v2 v6 v7 v8 : GV) (h : Heap) := n10 k (fun x v0 v1 v2 v6 v7 v8 h => kx x (n9 k G v0 v1 v2 v6 v7 v8 h) (G x v0 v1 v2 v6 v7 v8 h)) v0 v1 v2 v6 v7 v8 h
theorem n8_eq (G : KT6 R) : KC k 34 c8 σ h (Q6 G 0 1 2 6 7 8) = W6 (n8 k G) 0 1 2 6 7 8 σ h := (kseq (b := c9) rfl (fun σ h => n9_eq k σ h G)).trans (n10_eq k σ h (fun x v0 v1 v2 v6 v7 v8 h => kx x (n9 k G v0 v1 v2 v6 v7 v8 h) (G x v0 v1 v2 v6 v7 v8 h)))
noncomputable def c12 := cL c7
@[simp] def n7 (G : KT6 R) (v0 v1 v2 v6 v7 v8 : GV) (h : Heap) := (klen v0).bind fun v16 => (kbin .lss v8 v16).bind fun v17 => kcond v17 (n8 k G v0 v1 v2 v6 v7 v8 h) (G (.ext 0) v0 v1 v2 v6 v7 v8 h)
theorem n7_eq (G : KT6 R) : KC k 34 c7 σ h (Q6 G 0 1 2 6 7 8) = W6 (n7 k G) 0 1 2 6 7 8 σ h := (kseq (a := c12) (b := c8) rfl (fun σ h => n8_eq k σ h G)).trans (by kernel_rfl)
def l6 {R : Type} (k : Nat) (G : KT3 R) : Nat → GV → GV → GV → GV → GV → GV → Heap → Option R
  | 0, _, _, _, _, _, _, _ => none
  | r + 1, v0, v1, v2, v6, v7, v8, h => n7 k (fun x v0 v1 v2 v6 v7 v8 h => kx x (l6 k G r v0 v1 v2 v6 v7 v8 h) (G x v2 v6 v7 h)) v0 v1 v2 v6 v7 v8 h
theorem l6_eq {R : Type} (k : Nat) (G : KT3 R) : ∀ (r : Nat) (σ : GS) (h : Heap), kloop (fun σ h K => KC k 34 c7 σ h K) r σ h (Q3 G 2 6 7) = l6 k G r (σ 0) (σ 1) (σ 2) (σ 6) (σ 7) (σ 8) h
  | 0, _, _ => rfl
  | r + 1, σ, h => (kloop_eq (fun σ h => l6_eq k G r σ h)).trans (n7_eq k σ h (fun x v0 v1 v2 v6 v7 v8 h => kx x (l6 k G r v0 v1 v2 v6 v7 v8 h) (G x v2 v6 v7 h)))
@[simp] def n6 (G : KT3 R) (v0 v1 v2 v6 v7 v8 : GV) (h : Heap) := l6 k G k v0 v1 v2 v6 v7 v8 h
theorem n6_eq (G : KT3 R) : KC k 34 c6 σ h (Q3 G 2 6 7) = W6 (n6 k G) 0 1 2 6 7 8 σ h := (kloopc_eq (a := c7) rfl).trans (l6_eq k G k σ h)
@[simp] def n5 (G : KT3 R) (v0 v1 v2 v6 v7 v8 : GV) (h : Heap) := n6 k (fun x v2 v6 v7 h => kb 0 x fun x => G x v2 v6 v7 h) v0 v1 v2 v6 v7 v8 h
theorem n5_eq (G : KT3 R) : KC k 34 c5 σ h (Q3 G 2 6 7) = W6 (n5 k G) 0 1 2 6 7 8 σ h := (kblock_eq (a := c6) rfl).trans (n6_eq k σ h (fun x v2 v6 v7 h => kb 0 x fun x => G x v2 v6 v7 h))
noncomputable def c13 := cL c4
@[simp] def n4 (G : KT3 R) (v0 v1 v2 v6 v7 : GV) (h : Heap) := n5 k G v0 v1 v2 v6 v7 (.int .i64 0) h
theorem n4_eq (G : KT3 R) : KC k 34 c4 σ h (Q3 G 2 6 7) = W5 (n4 k G) 0 1 2 6 7 σ h := (kseq (a := c13) (b := c5) rfl (fun σ h => n5_eq k σ h G)).trans (by kernel_rfl)
@[simp] def n2 (G : KT1 R) (v0 v1 v2 v6 v7 : GV) (h : Heap) := n4 k (fun x v2 v6 v7 h => kx x (n3 k G v2 v7 h) (G x v6 h)) v0 v1 v2 v6 v7 h
theorem n2_eq (G : KT1 R) : KC k 34 c2 σ h (Q1 G 6) = W5 (n2 k G) 0 1 2 6 7 σ h := (kseq (b := c3) rfl (fun σ h => n3_eq k σ h G)).trans (n4_eq k σ h (fun x v2 v6 v7 h => kx x (n3 k G v2 v7 h) (G x v6 h)))
noncomputable def c14 := cL c1
@[simp] def n1 (G : KT1 R) (v0 v1 v2 v6 : GV) (h : Heap) := (klen v0).bind fun v10 => (kbin .mul (.int .i64 7919) v1).bind fun v12 => (kbin .add v10 v12).bind fun v13 => n2 k G v0 v1 v2 v6 v13 h
theorem n1_eq (G : KT1 R) : KC k 34 c1 σ h (Q1 G 6) = W4 (n1 k G) 0 1 2 6 σ h := (kseq (a := c14) (b := c2) rfl (fun σ h => n2_eq k σ h G)).trans (by kernel_rfl)
noncomputable def c15 := cL c0
@[simp] def n0 (G : KT1 R) (v0 v1 v2 : GV) (h : Heap) := n1 k G v0 v1 v2 (.int .i64 0) h
theorem n0_eq (G : KT1 R) : KC k 34 c0 σ h (Q1 G 6) = W3 (n0 k G) 0 1 2 σ h := (kseq (a := c15) (b := c1) rfl (fun σ h => n1_eq k σ h G)).trans (by kernel_rfl)
def run {R : Type} (k : Nat) (a0 a1 a2 : GV) (h : Heap) (fin : GV → Heap → Option R) : Option R := n0 k (fun x v6 h => kend x (fin v6 h)) a0 a1 a2 h
theorem gives {k : Nat} {a0 a1 a2 : GV} {v : GV} (e : run k a0 a1 a2 [] finN = some v) : NN fn.laws_pick [a0, a1, a2] = some v := nω_of (by kernel_rfl) (((kfun_eq (nt := 34) (c := c0) (show PP.funcs[fn.laws_pick]? = some Try.f27 by kernel_rfl) (by kernel_rfl) (by kernel_rfl) (fun x σ h => by cases x <;> kernel_rfl)).trans (n0_eq k _ [] _)).trans e)
end S.laws_pick
namespace S.laws_likeParser
noncomputable def c0 := bodyOf Try.f89
noncomputable def c1 := cR c0
noncomputable def c2 := cR c1
@[simp] def n2 {R : Type} (k : Nat) (G : KT1 R) (v4 : GV) (h : Heap) := G .ret v4 h
theorem n2_eq (G : KT1 R) : KC k 31 c2 σ h (Q1 G 4) = n2 k G (σ 4) h := by kernel_rfl
noncomputable def c3 := cL c1
noncomputable def o3 : Array Oper := cO c3
@[simp] def g3_6 {R : Type} (k : Nat) (G : KT1 R) (v24 v29 : GV) (h : Heap) := (kpick v24 v29 (.bool false)).bind fun v30 => G .nrm v30 h
theorem g3_6_eq (G : KT1 R) : kgroups PP cfg NN HH 31 o3 [(none, [25, 26])] σ h (fun σ h => G .nrm (σ 4) h) = W2 (g3_6 k G) 24 29 σ h := by kernel_rfl
@[simp] def g3_5 (G : KT1 R) (v2 v3 v24 : GV) (h : Heap) := bif tr true v24 then (kfa 3 v2).bind fun v25 => (kload1 h v25).bind fun v26 => (kfa 3 v3).bind fun v27 => (kload1 h v27).bind fun v28 => (kN NN fn.laws_likeInts [v26, v28] h).bind fun v29 => g3_6 k G v24 v29 h else g3_6 k G v24 .un h
theorem g3_5_eq (G : KT1 R) : kgroups PP cfg NN HH 31 o3 [(some (19, true), [20, 21, 22, 23, 24]), (none, [25, 26])] σ h (fun σ h => G .nrm (σ 4) h) = W3 (g3_5 k G) 2 3 24 σ h := (kgroups_cons (fun σ h => g3_6_eq k σ h G)).trans (by kernel_rfl)
@[simp] def g3_4 (G : KT1 R) (v2 v3 v17 v22 : GV) (h : Heap) := (kpick v17 v22 (.bool false)).bind fun v23 => g3_5 k G v2 v3 v23 h
theorem g3_4_eq (G : KT1 R) : kgroups PP cfg NN HH 31 o3 [(none, [18, 19]), (some (19, true), [20, 21, 22, 23, 24]), (none, [25, 26])] σ h (fun σ h => G .nrm (σ 4) h) = W4 (g3_4 k G) 2 3 17 22 σ h := (kgroups_cons (fun σ h => g3_5_eq k σ h G)).trans (by kernel_rfl)
@[simp] def g3_3 (G : KT1 R) (v2 v3 v17 : GV) (h : Heap) := bif tr true v17 then (kfa 2 v2).bind fun v18 => (kload1 h v18).bind fun v19 => (kfa 2 v3).bind fun v20 => (kload1 h v20).bind fun v21 => (kbin .eql v19 v21).bind fun v22 => g3_4 k G v2 v3 v17 v22 h else g3_4 k G v2 v3 v17 .un h
theorem g3_3_eq (G : KT1 R) : kgroups PP cfg NN HH 31 o3 [(some (12, true), [13, 14, 15, 16, 17]), (none, [18, 19]), (some (19, true), [20, 21, 22, 23, 24]), (none, [25, 26])] σ h (fun σ h => G .nrm (σ 4) h) = W3 (g3_3 k G) 2 3 17 σ h := (kgroups_cons (fun σ h => g3_4_eq k σ h G)).trans (by kernel_rfl)
@[simp] def g3_2 (G : KT1 R) (v2 v3 v10 v15 : GV) (h : Heap) := (kpick v10 v15 (.bool false)).bind fun v16 => g3_3 k G v2 v3 v16 h
theorem g3_2_eq (G : KT1 R) : kgroups PP cfg NN HH 31 o3 [(none, [11, 12]), (some (12, true), [13, 14, 15, 16, 17]), (none, [18, 19]), (some (19, true), [20, 21, 22, 23, 24]), (none, [25, 26])] σ h (fun σ h => G .nrm (σ 4) h) = W4 (g3_2 k G) 2 3 10 15 σ h := (kgroups_cons (fun σ h => g3_3_eq k σ h G)).trans (by kernel_rfl)
@[simp] def g3_1 (G : KT1 R) (v2 v3 v10 : GV) (h : Heap) := bif tr true v10 then (kfa 1 v2).bind fun v11 => (kload1 h v11).bind fun v12 => (kfa 1 v3).bind fun v13 => (kload1 h v13).bind fun v14 => (kN NN fn.laws_likeInts [v12, v14] h).bind fun v15 => g3_2 k G v2 v3 v10 v15 h else g3_2 k G v2 v3 v10 .un h
theorem g3_1_eq (G : KT1 R) : kgroups PP cfg NN HH 31 o3 [(some (5, true), [6, 7, 8, 9, 10]), (none, [11, 12]), (some (12, true), [13, 14, 15, 16, 17]), (none, [18, 19]), (some (19, true), [20, 21, 22, 23, 24]), (none, [25, 26])] σ h (fun σ h => G .nrm (σ 4) h) = W3 (g3_1 k G) 2 3 10 σ h := (kgroups_cons (fun σ h => g3_2_eq k σ h G)).trans (by kernel_rfl)
@[simp] def g3_0 (G : KT1 R) (v2 v3 : GV) (h : Heap) := (kfa 0 v2).bind fun v5 => (kload1 h v5).bind fun v6 => (kfa 0 v3).bind fun v7 => (kload1 h v7).bind fun v8 => (kbin .eql v6 v8).bind fun v9 => g3_1 k G v2 v3 v9 h
theorem g3_0_eq (G : KT1 R) : kgroups PP cfg NN HH 31 o3 [(none, [0, 1, 2, 3, 4, 5]), (some (5, true), [6, 7, 8, 9, 10]), (none, [11, 12]), (some (12, true), [13, 14, 15, 16, 17]), (none, [18, 19]), (some (19, true), [20, 21, 22, 23, 24]), (none, [25, 26])] σ h (fun σ h => G .nrm (σ 4) h) = W2 (g3_0 k G) 2 3 σ h := (kgroups_cons (fun σ h => g3_1_eq k σ h G)).trans (by kernel_rfl)
@[simp] def n3 (G : KT1 R) (v2 v3 : GV) (h : Heap) := g3_0 k G v2 v3 h
theorem n3_eq (G : KT1 R) : KC k 31 c3 σ h (Q1 G 4) = W2 (n3 k G) 2 3 σ h := (kregion_eq (id := 1) (draw := false) (ops := o3) (gs := [(none, [0, 1, 2, 3, 4, 5]), (some (5, true), [6, 7, 8, 9, 10]), (none, [11, 12]), (some (12, true), [13, 14, 15, 16, 17]), (none, [18, 19]), (some (19, true), [20, 21, 22, 23, 24]), (none, [25, 26])]) (by kernel_rfl) (by kernel_rfl) (by kernel_rfl)).trans (g3_0_eq k σ h G)
@[simp] def n1 (G : KT1 R) (v2 v3 : GV) (h : Heap) := n3 k (fun x v4 h => kx x (n2 k G v4 h) (G x v4 h)) v2 v3 h
theorem n1_eq (G : KT1 R) : KC k 31 c1 σ h (Q1 G 4) = W2 (n1 k G) 2 3 σ h := (kseq (b := c2) rfl (fun σ h => n2_eq k σ h G)).trans (n3_eq k σ h (fun x v4 h => kx x (n2 k G v4 h) (G x v4 h)))
noncomputable def c4 := cL c0
@[simp] def n0 (G : KT1 R) (v0 v1 : GV) (h : Heap) := kbox v0 h fun v2 h => kbox v1 h fun v3 h => n1 k G v2 v3 h
theorem n0_eq (G : KT1 R) : KC k 31 c0 σ h (Q1 G 4) = W2 (n0 k G) 0 1 σ h := (kseq (a := c4) (b := c1) rfl (fun σ h => n1_eq k σ h G)).trans (by kernel_rfl)
def run {R : Type} (k : Nat) (a0 a1 : GV) (h : Heap) (fin : GV → Heap → Option R) : Option R := n0 k (fun x v4 h => kend x (fin v4 h)) a0 a1 h
theorem gives {k : Nat} {a0 a1 : GV} {v : GV} (e : run k a0 a1 [] finN = some v) : NN fn.laws_likeParser [a0, a1] = some v := nω_of (by kernel_rfl) (((kfun_eq (nt := 31) (c := c0) (show PP.funcs[fn.laws_likeParser]? = some Try.f89 by kernel_rfl) (by kernel_rfl) (by kernel_rfl) (fun x σ h => by cases x <;> kernel_rfl)).trans (n0_eq k _ [] _)).trans e)
end S.laws_likeParser
namespace S.laws_likeActions
noncomputable def c0 := bodyOf Try.f90
noncomputable def c1 := cR c0
noncomputable def c2 := cR c1
noncomputable def c3 := cR c2
@[simp] def n3 {R : Type} (k : Nat) (G : KT1 R) (h : Heap) := G .ret (.bool true) h
theorem n3_eq (G : KT1 R) : KC k 62 c3 σ h (Q1 G 4) = n3 k G h := by kernel_rfl
noncomputable def c4 := cL c2
noncomputable def c5 := cR c4
noncomputable def c6 := cL c5
noncomputable def c7 := cL c6
noncomputable def c8 := cR c7
noncomputable def c9 := cR c8
@[simp] def n9 {R : Type} (k : Nat) (G : KT4 R) (v0 v1 v4 v5 : GV) (h : Heap) := (kbin .add v5 (.int .i64 1)).bind fun v18 => G .nrm v0 v1 v4 v18 h
theorem n9_eq (G : KT4 R) : KC k 62 c9 σ h (Q4 G 0 1 4 5) = W4 (n9 k G) 0 1 4 5 σ h := by kernel_rfl
noncomputable def c10 := cL c8
noncomputable def c11 := cL c10
noncomputable def c12 := cR c11
noncomputable def c13 := cR c12
noncomputable def c14 := cR c13
@[simp] def n14 {R : Type} (k : Nat) (G : KT4 R) (v0 v1 v4 v5 v61 : GV) (h : Heap) := kcond v61 (G .ret v0 v1 (.bool false) v5 h) (G .nrm v0 v1 v4 v5 h)
theorem n14_eq (G : KT4 R) : KC k 62 c14 σ h (Q4 G 0 1 4 5) = W5 (n14 k G) 0 1 4 5 61 σ h := by kernel_rfl
noncomputable def c15 := cL c13
noncomputable def o15 : Array Oper := cO c15
@[simp] def g15_8 {R : Type} (k : Nat) (G : KT5 R) (v0 v1 v4 v5 v54 v60 : GV) (h : Heap) := (kpick v54 (.bool true) v60).bind fun v61 => G .nrm v0 v1 v4 v5 v61 h
theorem g15_8_eq (G : KT5 R) : kgroups PP cfg NN HH 62 o15 [(none, [34])] σ h (fun σ h => G .nrm (σ 0) (σ 1) (σ 4) (σ 5) (σ 61) h) = W6 (g15_8 k G) 0 1 4 5 54 60 σ h := by kernel_rfl
@[simp] def g15_7 (G : KT5 R) (v0 v1 v4 v5 v6 v7 v54 : GV) (h : Heap) := bif tr false v54 then (kfa 4 v6).bind fun v55 => (kload1 h v55).bind fun v56 => (kfa 4 v7).bind fun v57 => (kload1 h v57).bind fun v58 => (kN NN fn.laws_likeInts [v56, v58] h).bind fun v59 => (kun .not v59).bind fun v60 => g15_8 k G v0 v1 v4 v5 v54 v60 h else g15_8 k G v0 v1 v4 v5 v54 .un h
theorem g15_7_eq (G : KT5 R) : kgroups PP cfg NN HH 62 o15 [(some (27, false), [28, 29, 30, 31, 32, 33]), (none, [34])] σ h (fun σ h => G .nrm (σ 0) (σ 1) (σ 4) (σ 5) (σ 61) h) = W7 (g15_7 k G) 0 1 4 5 6 7 54 σ h := (kgroups_cons (fun σ h => g15_8_eq k σ h G)).trans (by kernel_rfl)
@[simp] def g15_6 (G : KT5 R) (v0 v1 v4 v5 v6 v7 v47 v52 : GV) (h : Heap) := (kpick v47 (.bool true) v52).bind fun v53 => g15_7 k G v0 v1 v4 v5 v6 v7 v53 h
theorem g15_6_eq (G : KT5 R) : kgroups PP cfg NN HH 62 o15 [(none, [26, 27]), (some (27, false), [28, 29, 30, 31, 32, 33]), (none, [34])] σ h (fun σ h => G .nrm (σ 0) (σ 1) (σ 4) (σ 5) (σ 61) h) = W8 (g15_6 k G) 0 1 4 5 6 7 47 52 σ h := (kgroups_cons (fun σ h => g15_7_eq k σ h G)).trans (by kernel_rfl)
@[simp] def g15_5 (G : KT5 R) (v0 v1 v4 v5 v6 v7 v47 : GV) (h : Heap) := bif tr false v47 then (kfa 3 v6).bind fun v48 => (kload1 h v48).bind fun v49 => (kfa 3 v7).bind fun v50 => (kload1 h v50).bind fun v51 => (kbin .neq v49 v51).bind fun v52 => g15_6 k G v0 v1 v4 v5 v6 v7 v47 v52 h else g15_6 k G v0 v1 v4 v5 v6 v7 v47 .un h
theorem g15_5_eq (G : KT5 R) : kgroups PP cfg NN HH 62 o15 [(some (20, false), [21, 22, 23, 24, 25]), (none, [26, 27]), (some (27, false), [28, 29, 30, 31, 32, 33]), (none, [34])] σ h (fun σ h => G .nrm (σ 0) (σ 1) (σ 4) (σ 5) (σ 61) h) = W7 (g15_5 k G) 0 1 4 5 6 7 47 σ h := (kgroups_cons (fun σ h => g15_6_eq k σ h G)).trans (by kernel_rfl)
@[simp] def g15_4 (G : KT5 R) (v0 v1 v4 v5 v6 v7 v39 v45 : GV) (h : Heap) := (kpick v39 (.bool true) v45).bind fun v46 => g15_5 k G v0 v1 v4 v5 v6 v7 v46 h
theorem g15_4_eq (G : KT5 R) : kgroups PP cfg NN HH 62 o15 [(none, [19, 20]), (some (20, false), [21, 22, 23, 24, 25]), (none, [26, 27]), (some (27, false), [28, 29, 30, 31, 32, 33]), (none, [34])] σ h (fun σ h => G .nrm (σ 0) (σ 1) (σ 4) (σ 5) (σ 61) h) = W8 (g15_4 k G) 0 1 4 5 6 7 39 45 σ h := (kgroups_cons (fun σ h => g15_5_eq k σ h G)).trans (by kernel_rfl)
@[simp] def g15_3 (G : KT5 R) (v0 v1 v4 v5 v6 v7 v39 : GV) (h : Heap) := bif tr false v39 then (kfa 2 v6).bind fun v40 => (kload1 h v40).bind fun v41 => (kfa 2 v7).bind fun v42 => (kload1 h v42).bind fun v43 => (kN NN fn.laws_likeInts [v41, v43] h).bind fun v44 => (kun .not v44).bind fun v45 => g15_4 k G v0 v1 v4 v5 v6 v7 v39 v45 h else g15_4 k G v0 v1 v4 v5 v6 v7 v39 .un h
theorem g15_3_eq (G : KT5 R) : kgroups PP cfg NN HH 62 o15 [(some (12, false), [13, 14, 15, 16, 17, 18]), (none, [19, 20]), (some (20, false), [21, 22, 23, 24, 25]), (none, [26, 27]), (some (27, false), [28, 29, 30, 31, 32, 33]), (none, [34])] σ h (fun σ h => G .nrm (σ 0) (σ 1) (σ 4) (σ 5) (σ 61) h) = W7 (g15_3 k G) 0 1 4 5 6 7 39 σ h := (kgroups_cons (fun σ h => g15_4_eq k σ h G)).trans (by kernel_rfl)
@[simp] def g15_2 (G : KT5 R) (v0 v1 v4 v5 v6 v7 v32 v37 : GV) (h : Heap) := (kpick v32 (.bool true) v37).bind fun v38 => g15_3 k G v0 v1 v4 v5 v6 v7 v38 h
theorem g15_2_eq (G : KT5 R) : kgroups PP cfg NN HH 62 o15 [(none, [11, 12]), (some (12, false), [13, 14, 15, 16, 17, 18]), (none, [19, 20]), (some (20, false), [21, 22, 23, 24, 25]), (none, [26, 27]), (some (27, false), [28, 29, 30, 31, 32, 33]), (none, [34])] σ h (fun σ h => G .nrm (σ 0) (σ 1) (σ 4) (σ 5) (σ 61) h) = W8 (g15_2 k G) 0 1 4 5 6 7 32 37 σ h := (kgroups_cons (fun σ h => g15_3_eq k σ h G)).trans (by kernel_rfl)
@[simp] def g15_1 (G : KT5 R) (v0 v1 v4 v5 v6 v7 v32 : GV) (h : Heap) := bif tr false v32 then (kfa 1 v6).bind fun v33 => (kload1 h v33).bind fun v34 => (kfa 1 v7).bind fun v35 => (kload1 h v35).bind fun v36 => (kbin .neq v34 v36).bind fun v37 => g15_2 k G v0 v1 v4 v5 v6 v7 v32 v37 h else g15_2 k G v0 v1 v4 v5 v6 v7 v32 .un h
theorem g15_1_eq (G : KT5 R) : kgroups PP cfg NN HH 62 o15 [(some (5, false), [6, 7, 8, 9, 10]), (none, [11, 12]), (some (12, false), [13, 14, 15, 16, 17, 18]), (none, [19, 20]), (some (20, false), [21, 22, 23, 24, 25]), (none, [26, 27]), (some (27, false), [28, 29, 30, 31, 32, 33]), (none, [34])] σ h (fun σ h => G .nrm (σ 0) (σ 1) (σ 4) (σ 5) (σ 61) h) = W7 (g15_1 k G) 0 1 4 5 6 7 32 σ h := (kgroups_cons (fun σ h => g15_2_eq k σ h G)).trans (by kernel_rfl)
@[simp] def g15_0 (G : KT5 R) (v0 v1 v4 v5 v6 v7 : GV) (h : Heap) := (kfa 0 v6).bind fun v27 => (kload1 h v27).bind fun v28 => (kfa 0 v7).bind fun v29 => (kload1 h v29).bind fun v30 => (kbin .neq v28 v30).bind fun v31 => g15_1 k G v0 v1 v4 v5 v6 v7 v31 h
theorem g15_0_eq (G : KT5 R) : kgroups PP cfg NN HH 62 o15 [(none, [0, 1, 2, 3, 4, 5]), (some (5, false), [6, 7, 8, 9, 10]), (none, [11, 12]), (some (12, false), [13, 14, 15, 16, 17, 18]), (none, [19, 20]), (some (20, false), [21, 22, 23, 24, 25]), (none, [26, 27]), (some (27, false), [28, 29, 30, 31, 32, 33]), (none, [34])] σ h (fun σ h => G .nrm (σ 0) (σ 1) (σ 4) (σ 5) (σ 61) h) = W6 (g15_0 k G) 0 1 4 5 6 7 σ h := (kgroups_cons (fun σ h => g15_1_eq k σ h G)).trans (by kernel_rfl)
@[simp] def n15 (G : KT5 R) (v0 v1 v4 v5 v6 v7 : GV) (h : Heap) := g15_0 k G v0 v1 v4 v5 v6 v7 h
theorem n15_eq (G : KT5 R) : KC k 62 c15 σ h (Q5 G 0 1 4 5 61) = W6 (n15 k G) 0 1 4 5 6 7 σ h := (kregion_eq (id := 8) (draw := false) (ops := o15) (gs := [(none, [0, 1, 2, 3, 4, 5]), (some (5, false), [6, 7, 8, 9, 10]), (none, [11, 12]), (some (12, false), [13, 14, 15, 16, 17, 18]), (none, [19, 20]), (some (20, false), [21, 22, 23, 24, 25]), (none, [26, 27]), (some (27, false), [28, 29, 30, 31, 32, 33]), (none, [34])]) (by kernel_rfl) (by kernel_rfl) (by kernel_rfl)).trans (g15_0_eq k σ h G)
@[simp] def n13 (G : KT4 R) (v0 v1 v4 v5 v6 v7 : GV) (h : Heap) := n15 k (fun x v0 v1 v4 v5 v61 h => kx x (n14 k G v0 v1 v4 v5 v61 h) (G x v0 v1 v4 v5 h)) v0 v1 v4 v5 v6 v7 h
theorem n13_eq (G : KT4 R) : KC k 62 c13 σ h (Q4 G 0 1 4 5) = W6 (n13 k G) 0 1 4 5 6 7 σ h := (kseq (b := c14) rfl (fun σ h => n14_eq k σ h G)).trans (n15_eq k σ h (fun x v0 v1 v4 v5 v61 h => kx x (n14 k G v0 v1 v4 v5 v61 h) (G x v0 v1 v4 v5 h)))
noncomputable def c16 := cL c12
@[simp] def n12 (G : KT4 R) (v0 v1 v4 v5 v6 : GV) (h : Heap) := (kia 5 v1 v5).bind fun v25 => (kloadA 5 h v25).bind fun v26 => kalloc [(.int .i64 0), (.int .i64 0), .nils, (.int .i64 0), .nils] h fun v7 h => (kstore 5 h v7 v26).bind fun h => n13 k G v0 v1 v4 v5 v6 v7 h
theorem n12_eq (G : KT4 R) : KC k 62 c12 σ h (Q4 G 0 1 4 5) = W5 (n12 k G) 0 1 4 5 6 σ h := (kseq (a := c16) (b := c13) rfl (fun σ h => n13_eq k σ h G)).trans (by kernel_rfl)
noncomputable def c17 := cL c11
@[simp] def n11 (G : KT4 R) (v0 v1 v4 v5 : GV) (h : Heap) := (kia 5 v0 v5).bind fun v21 => (kloadA 5 h v21).bind fun v22 => kalloc [(.int .i64 0), (.int .i64 0), .nils, (.int .i64 0), .nils] h fun v6 h => (kstore 5 h v6 v22).bind fun h => n12 k G v0 v1 v4 v5 v6 h
theorem n11_eq (G : KT4 R) : KC k 62 c11 σ h (Q4 G 0 1 4 5) = W4 (n11 k G) 0 1 4 5 σ h := (kseq (a := c17) (b := c12) rfl (fun σ h => n12_eq k σ h G)).trans (by kernel_rfl)
@[simp] def n10 (G : KT4 R) (v0 v1 v4 v5 : GV) (h : Heap) := n11 k (fun x v0 v1 v4 v5 h => kb 1 x fun x => G x v0 v1 v4 v5 h) v0 v1 v4 v5 h
theorem n10_eq (G : KT4 R) : KC k 62 c10 σ h (Q4 G 0 1 4 5) = W4 (n10 k G) 0 1 4 5 σ h := (kblock_eq (a := c11) rfl).trans (n11_eq k σ h (fun x v0 v1 v4 v5 h => kb 1 x fun x => G x v0 v1 v4 v5 h))
@[simp] def n8 (G : KT4 R) (v0 v1 v4 v5 : GV) (h : Heap) := n10 k (fun x v0 v1 v4 v5 h => kx x (n9 k G v0 v1 v4 v5 h) (G x v0 v1 v4 v5 h)) v0 v1 v4 v5 h
theorem n8_eq (G : KT4 R) : KC k 62 c8 σ h (Q4 G 0 1 4 5) = W4 (n8 k G) 0 1 4 5 σ h := (kseq (b := c9) rfl (fun σ h => n9_eq k σ h G)).trans (n10_eq k σ h (fun x v0 v1 v4 v5 h => kx x (n9 k G v0 v1 v4 v5 h) (G x v0 v1 v4 v5 h)))
noncomputable def c18 := cL c7
@[simp] def n7 (G : KT4 R) (v0 v1 v4 v5 : GV) (h : Heap) := (klen v0).bind fun v15 => (kbin .lss v5 v15).bind fun v16 => kcond v16 (n8 k G v0 v1 v4 v5 h) (G (.ext 0) v0 v1 v4 v5 h)
theorem n7_eq (G : KT4 R) : KC k 62 c7 σ h (Q4 G 0 1 4 5) = W4 (n7 k G) 0 1 4 5 σ h := (kseq (a := c18) (b := c8) rfl (fun σ h => n8_eq k σ h G)).trans (by kernel_rfl)
def l6 {R : Type} (k : Nat) (G : KT1 R) : Nat → GV → GV → GV → GV → Heap → Option R
  | 0, _, _, _, _, _ => none
  | r + 1, v0, v1, v4, v5, h => n7 k (fun x v0 v1 v4 v5 h => kx x (l6 k G r v0 v1 v4 v5 h) (G x v4 h)) v0 v1 v4 v5 h
theorem l6_eq {R : Type} (k : Nat) (G : KT1 R) : ∀ (r : Nat) (σ : GS) (h : Heap), kloop (fun σ h K => KC k 62 c7 σ h K) r σ h (Q1 G 4) = l6 k G r (σ 0) (σ 1) (σ 4) (σ 5) h
  | 0, _, _ => rfl
  | r + 1, σ, h => (kloop_eq (fun σ h => l6_eq k G r σ h)).trans (n7_eq k σ h (fun x v0 v1 v4 v5 h => kx x (l6 k G r v0 v1 v4 v5 h) (G x v4 h)))
@[simp] def n6 (G : KT1 R) (v0 v1 v4 v5 : GV) (h : Heap) := l6 k G k v0 v1 v4 v5 h
theorem n6_eq (G : KT1 R) : KC k 62 c6 σ h (Q1 G 4) = W4 (n6 k G) 0 1 4 5 σ h := (kloopc_eq (a := c7) rfl).trans (l6_eq k G k σ h)
@[simp] def n5 (G : KT1 R) (v0 v1 v4 v5 : GV) (h : Heap) := n6 k (fun x v4 h => kb 0 x fun x => G x v4 h) v0 v1 v4 v5 h
theorem n5_eq (G : KT1 R) : KC k 62 c5 σ h (Q1 G 4) = W4 (n5 k G) 0 1 4 5 σ h := (kblock_eq (a := c6) rfl).trans (n6_eq k σ h (fun x v4 h => kb 0 x fun x => G x v4 h))
noncomputable def c19 := cL c4
@[simp] def n4 (G : KT1 R) (v0 v1 v4 : GV) (h : Heap) := n5 k G v0 v1 v4 (.int .i64 0) h
theorem n4_eq (G : KT1 R) : KC k 62 c4 σ h (Q1 G 4) = W3 (n4 k G) 0 1 4 σ h := (kseq (a := c19) (b := c5) rfl (fun σ h => n5_eq k σ h G)).trans (by kernel_rfl)
@[simp] def n2 (G : KT1 R) (v0 v1 v4 : GV) (h : Heap) := n4 k (fun x v4 h => kx x (n3 k G h) (G x v4 h)) v0 v1 v4 h
theorem n2_eq (G : KT1 R) : KC k 62 c2 σ h (Q1 G 4) = W3 (n2 k G) 0 1 4 σ h := (kseq (b := c3) rfl (fun σ h => n3_eq k σ h G)).trans (n4_eq k σ h (fun x v4 h => kx x (n3 k G h) (G x v4 h)))
noncomputable def c20 := cL c1
@[simp] def n1 (G : KT1 R) (v0 v1 v4 : GV) (h : Heap) := (klen v0).bind fun v9 => (klen v1).bind fun v11 => (kbin .neq v9 v11).bind fun v12 => kcond v12 (G .ret (.bool false) h) (n2 k G v0 v1 v4 h)
theorem n1_eq (G : KT1 R) : KC k 62 c1 σ h (Q1 G 4) = W3 (n1 k G) 0 1 4 σ h := (kseq (a := c20) (b := c2) rfl (fun σ h => n2_eq k σ h G)).trans (by kernel_rfl)
noncomputable def c21 := cL c0
@[simp] def n0 (G : KT1 R) (v0 v1 : GV) (h : Heap) := n1 k G v0 v1 (.bool false) h
theorem n0_eq (G : KT1 R) : KC k 62 c0 σ h (Q1 G 4) = W2 (n0 k G) 0 1 σ h := (kseq (a := c21) (b := c1) rfl (fun σ h => n1_eq k σ h G)).trans (by kernel_rfl)
def run {R : Type} (k : Nat) (a0 a1 : GV) (h : Heap) (fin : GV → Heap → Option R) : Option R := n0 k (fun x v4 h => kend x (fin v4 h)) a0 a1 h
theorem gives {k : Nat} {a0 a1 : GV} {v : GV} (e : run k a0 a1 [] finN = some v) : NN fn.laws_likeActions [a0, a1] = some v := nω_of (by kernel_rfl) (((kfun_eq (nt := 62) (c := c0) (show PP.funcs[fn.laws_likeActions]? = some Try.f90 by kernel_rfl) (by kernel_rfl) (by kernel_rfl) (fun x σ h => by cases x <;> kernel_rfl)).trans (n0_eq k _ [] _)).trans e)
end S.laws_likeActions
namespace S.laws_likeInts
noncomputable def c0 := bodyOf Try.f134
noncomputable def c1 := cR c0
noncomputable def c2 := cR c1
noncomputable def c3 := cR c2
@[simp] def n3 {R : Type} (k : Nat) (G : KT1 R) (h : Heap) := G .ret (.bool true) h
theorem n3_eq (G : KT1 R) : KC k 26 c3 σ h (Q1 G 4) = n3 k G h := by kernel_rfl
noncomputable def c4 := cL c2
noncomputable def c5 := cR c4
noncomputable def c6 := cL c5
noncomputable def c7 := cL c6
noncomputable def c8 := cR c7
noncomputable def c9 := cR c8
@[simp] def n9 {R : Type} (k : Nat) (G : KT4 R) (v0 v1 v4 v5 : GV) (h : Heap) := (kbin .add v5 (.int .i64 1)).bind fun v16 => G .nrm v0 v1 v4 v16 h
theorem n9_eq (G : KT4 R) : KC k 26 c9 σ h (Q4 G 0 1 4 5) = W4 (n9 k G) 0 1 4 5 σ h := by kernel_rfl
noncomputable def c10 := cL c8
noncomputable def c11 := cL c10
@[simp] def n11 {R : Type} (k : Nat) (G : KT4 R) (v0 v1 v4 v5 : GV) (h : Heap) := (kia 1 v0 v5).bind fun v19 => (kload1 h v19).bind fun v20 => (kia 1 v1 v5).bind fun v23 => (kload1 h v23).bind fun v24 => (kbin .neq v20 v24).bind fun v25 => kcond v25 (G .ret v0 v1 (.bool false) v5 h) (G .nrm v0 v1 v4 v5 h)
theorem n11_eq (G : KT4 R) : KC k 26 c11 σ h (Q4 G 0 1 4 5) = W4 (n11 k G) 0 1 4 5 σ h := by kernel_rfl
@[simp] def n10 (G : KT4 R) (v0 v1 v4 v5 : GV) (h : Heap) := n11 k (fun x v0 v1 v4 v5 h => kb 1 x fun x => G x v0 v1 v4 v5 h) v0 v1 v4 v5 h
theorem n10_eq (G : KT4 R) : KC k 26 c10 σ h (Q4 G 0 1 4 5) = W4 (n10 k G) 0 1 4 5 σ h := (kblock_eq (a := c11) rfl).trans (n11_eq k σ h (fun x v0 v1 v4 v5 h => kb 1 x fun x => G x v0 v1 v4 v5 h))
@[simp] def n8 (G : KT4 R) (v0 v1 v4 v5 : GV) (h : Heap) := n10 k (fun x v0 v1 v4 v5 h => kx x (n9 k G v0 v1 v4 v5 h) (G x v0 v1 v4 v5 h)) v0 v1 v4 v5 h
theorem n8_eq (G : KT4 R) : KC k 26 c8 σ h (Q4 G 0 1 4 5) = W4 (n8 k G) 0 1 4 5 σ h := (kseq (b := c9) rfl (fun σ h => n9_eq k σ h G)).trans (n10_eq k σ h (fun x v0 v1 v4 v5 h => kx x (n9 k G v0 v1 v4 v5 h) (G x v0 v1 v4 v5 h)))
noncomputable def c12 := cL c7
@[simp] def n7 (G : KT4 R) (v0 v1 v4 v5 : GV) (h : Heap) := (klen v0).bind fun v13 => (kbin .lss v5 v13).bind fun v14 => kcond v14 (n8 k G v0 v1 v4 v5 h) (G (.ext 0) v0 v1 v4 v5 h)
theorem n7_eq (G : KT4 R) : KC k 26 c7 σ h (Q4 G 0 1 4 5) = W4 (n7 k G) 0 1 4 5 σ h := (kseq (a := c12) (b := c8) rfl (fun σ h => n8_eq k σ h G)).trans (by kernel_rfl)
def l6 {R : Type} (k : Nat) (G : KT1 R) : Nat → GV → GV → GV → GV → Heap → Option R
  | 0, _, _, _, _, _ => none
  | r + 1, v0, v1, v4, v5, h => n7 k (fun x v0 v1 v4 v5 h => kx x (l6 k G r v0 v1 v4 v5 h) (G x v4 h)) v0 v1 v4 v5 h
theorem l6_eq {R : Type} (k : Nat) (G : KT1 R) : ∀ (r : Nat) (σ : GS) (h : Heap), kloop (fun σ h K => KC k 26 c7 σ h K) r σ h (Q1 G 4) = l6 k G r (σ 0) (σ 1) (σ 4) (σ 5) h
  | 0, _, _ => rfl
  | r + 1, σ, h => (kloop_eq (fun σ h => l6_eq k G r σ h)).trans (n7_eq k σ h (fun x v0 v1 v4 v5 h => kx x (l6 k G r v0 v1 v4 v5 h) (G x v4 h)))
@[simp] def n6 (G : KT1 R) (v0 v1 v4 v5 : GV) (h : Heap) := l6 k G k v0 v1 v4 v5 h
theorem n6_eq (G : KT1 R) : KC k 26 c6 σ h (Q1 G 4) = W4 (n6 k G) 0 1 4 5 σ h := (kloopc_eq (a := c7) rfl).trans (l6_eq k G k σ h)
@[simp] def n5 (G : KT1 R) (v0 v1 v4 v5 : GV) (h : Heap) := n6 k (fun x v4 h => kb 0 x fun x => G x v4 h) v0 v1 v4 v5 h
theorem n5_eq (G : KT1 R) : KC k 26 c5 σ h (Q1 G 4) = W4 (n5 k G) 0 1 4 5 σ h := (kblock_eq (a := c6) rfl).trans (n6_eq k σ h (fun x v4 h => kb 0 x fun x => G x v4 h))
noncomputable def c13 := cL c4
@[simp] def n4 (G : KT1 R) (v0 v1 v4 : GV) (h : Heap) := n5 k G v0 v1 v4 (.int .i64 0) h
theorem n4_eq (G : KT1 R) : KC k 26 c4 σ h (Q1 G 4) = W3 (n4 k G) 0 1 4 σ h := (kseq (a := c13) (b := c5) rfl (fun σ h => n5_eq k σ h G)).trans (by kernel_rfl)
@[simp] def n2 (G : KT1 R) (v0 v1 v4 : GV) (h : Heap) := n4 k (fun x v4 h => kx x (n3 k G h) (G x v4 h)) v0 v1 v4 h
theorem n2_eq (G : KT1 R) : KC k 26 c2 σ h (Q1 G 4) = W3 (n2 k G) 0 1 4 σ h := (kseq (b := c3) rfl (fun σ h => n3_eq k σ h G)).trans (n4_eq k σ h (fun x v4 h => kx x (n3 k G h) (G x v4 h)))
noncomputable def c14 := cL c1
@[simp] def n1 (G : KT1 R) (v0 v1 v4 : GV) (h : Heap) := (klen v0).bind fun v7 => (klen v1).bind fun v9 => (kbin .neq v7 v9).bind fun v10 => kcond v10 (G .ret (.bool false) h) (n2 k G v0 v1 v4 h)
theorem n1_eq (G : KT1 R) : KC k 26 c1 σ h (Q1 G 4) = W3 (n1 k G) 0 1 4 σ h := (kseq (a := c14) (b := c2) rfl (fun σ h => n2_eq k σ h G)).trans (by kernel_rfl)
noncomputable def c15 := cL c0
@[simp] def n0 (G : KT1 R) (v0 v1 : GV) (h : Heap) := n1 k G v0 v1 (.bool false) h
theorem n0_eq (G : KT1 R) : KC k 26 c0 σ h (Q1 G 4) = W2 (n0 k G) 0 1 σ h := (kseq (a := c15) (b := c1) rfl (fun σ h => n1_eq k σ h G)).trans (by kernel_rfl)
def run {R : Type} (k : Nat) (a0 a1 : GV) (h : Heap) (fin : GV → Heap → Option R) : Option R := n0 k (fun x v4 h => kend x (fin v4 h)) a0 a1 h
theorem gives {k : Nat} {a0 a1 : GV} {v : GV} (e : run k a0 a1 [] finN = some v) : NN fn.laws_likeInts [a0, a1] = some v := nω_of (by kernel_rfl) (((kfun_eq (nt := 26) (c := c0) (show PP.funcs[fn.laws_likeInts]? = some Try.f134 by kernel_rfl) (by kernel_rfl) (by kernel_rfl) (fun x σ h => by cases x <;> kernel_rfl)).trans (n0_eq k _ [] _)).trans e)
end S.laws_likeInts
end
end Go.Proofs.Ytlbnioapepelnaa.G
