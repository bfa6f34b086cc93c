/- What these functions do, told for open values, out of the machine with continuations. Printed by a program of this session. -/
import Derived.Test.YtlbnioapepelnaaZe43b1442
import Derived.KernelRfl
set_option linter.unusedVariables false
set_option maxRecDepth 100000
namespace Go.Proofs.Ytlbnioapepelnaa.G
open Go.RowKit
noncomputable section
variable {R : Type} (k : Nat) (σ : GS) (h : Heap)
namespace S.spec_ChainOk
noncomputable def c0 := bodyOf Try.f26
noncomputable def c1 := cR c0
noncomputable def c2 := cR c1
noncomputable def c3 := cR c2
noncomputable def c4 := cR c3
@[simp] def n4 {R : Type} (k : Nat) (G : KT1 R) (h : Heap) := G .ret (.bool true) h
theorem n4_eq (G : KT1 R) : KC k 141 c4 σ h (Q1 G 2) = n4 k G h := by kernel_rfl
noncomputable def c5 := cL c3
noncomputable def c6 := cR c5
noncomputable def c7 := cL c6
noncomputable def c8 := cL c7
noncomputable def c9 := cR c8
noncomputable def c10 := cR c9
@[simp] def n10 {R : Type} (k : Nat) (G : KT4 R) (v1 v2 v3 v4 : GV) (h : Heap) := (kbin .add v4 (.int .i64 1)).bind fun v39 => G .nrm v1 v2 v3 v39 h
theorem n10_eq (G : KT4 R) : KC k 141 c10 σ h (Q4 G 1 2 3 4) = W4 (n10 k G) 1 2 3 4 σ h := by kernel_rfl
noncomputable def c11 := cL c9
noncomputable def c12 := cL c11
noncomputable def c13 := cR c12
noncomputable def c14 := cR c13
noncomputable def c15 := cR c14
noncomputable def c16 := cR c15
noncomputable def c17 := cR c16
noncomputable def c18 := cR c17
noncomputable def c19 := cR c18
noncomputable def c20 := cR c19
noncomputable def c21 := cL c20
noncomputable def c22 := cL c21
noncomputable def c23 := cR c22
noncomputable def c24 := cR c23
@[simp] def n24 {R : Type} (k : Nat) (G : KT7 R) (v1 v2 v3 v4 v7 v8 v9 : GV) (h : Heap) := (kbin .add v9 (.int .i64 1)).bind fun v119 => G .nrm v1 v2 v3 v4 v7 v8 v119 h
theorem n24_eq (G : KT7 R) : KC k 141 c24 σ h (Q7 G 1 2 3 4 7 8 9) = W7 (n24 k G) 1 2 3 4 7 8 9 σ h := by kernel_rfl
noncomputable def c25 := cL c23
noncomputable def c26 := cL c25
@[simp] def n26 {R : Type} (k : Nat) (G : KT7 R) (v1 v2 v3 v4 v7 v8 v9 : GV) (h : Heap) := (kfa 2 v1).bind fun v120 => (kload1 h v120).bind fun v121 => (kia 1 v121 v4).bind fun v123 => (kload1 h v123).bind fun v124 => (kia 1 v124 v9).bind fun v126 => (kload1 h v126).bind fun v127 => (kfa 1 v7).bind fun v129 => (kload1 h v129).bind fun v130 => (kN NN fn.spec_l1In [v127, v8, v130] h).bind fun v131 => (kun .not v131).bind fun v132 => kcond v132 (G .ret v1 (.bool false) v3 v4 v7 v8 v9 h) ((kfa 2 v1).bind fun v133 => (kload1 h v133).bind fun v134 => (kia 1 v134 v4).bind fun v136 => (kload1 h v136).bind fun v137 => (kia 1 v137 v9).bind fun v139 => (kload1 h v139).bind fun v140 => G .nrm v1 v2 v3 v4 v7 v140 v9 h)
theorem n26_eq (G : KT7 R) : KC k 141 c26 σ h (Q7 G 1 2 3 4 7 8 9) = W7 (n26 k G) 1 2 3 4 7 8 9 σ h := by kernel_rfl
@[simp] def n25 (G : KT7 R) (v1 v2 v3 v4 v7 v8 v9 : GV) (h : Heap) := n26 k (fun x v1 v2 v3 v4 v7 v8 v9 h => kb 5 x fun x => G x v1 v2 v3 v4 v7 v8 v9 h) v1 v2 v3 v4 v7 v8 v9 h
theorem n25_eq (G : KT7 R) : KC k 141 c25 σ h (Q7 G 1 2 3 4 7 8 9) = W7 (n25 k G) 1 2 3 4 7 8 9 σ h := (kblock_eq (a := c26) rfl).trans (n26_eq k σ h (fun x v1 v2 v3 v4 v7 v8 v9 h => kb 5 x fun x => G x v1 v2 v3 v4 v7 v8 v9 h))
@[simp] def n23 (G : KT7 R) (v1 v2 v3 v4 v7 v8 v9 : GV) (h : Heap) := n25 k (fun x v1 v2 v3 v4 v7 v8 v9 h => kx x (n24 k G v1 v2 v3 v4 v7 v8 v9 h) (G x v1 v2 v3 v4 v7 v8 v9 h)) v1 v2 v3 v4 v7 v8 v9 h
theorem n23_eq (G : KT7 R) : KC k 141 c23 σ h (Q7 G 1 2 3 4 7 8 9) = W7 (n23 k G) 1 2 3 4 7 8 9 σ h := (kseq (b := c24) rfl (fun σ h => n24_eq k σ h G)).trans (n25_eq k σ h (fun x v1 v2 v3 v4 v7 v8 v9 h => kx x (n24 k G v1 v2 v3 v4 v7 v8 v9 h) (G x v1 v2 v3 v4 v7 v8 v9 h)))
noncomputable def c27 := cL c22
@[simp] def n22 (G : KT7 R) (v1 v2 v3 v4 v7 v8 v9 : GV) (h : Heap) := (kfa 2 v1).bind fun v111 => (kload1 h v111).bind fun v112 => (kia 1 v112 v4).bind fun v114 => (kload1 h v114).bind fun v115 => (klen v115).bind fun v116 => (kbin .lss v9 v116).bind fun v117 => kcond v117 (n23 k G v1 v2 v3 v4 v7 v8 v9 h) (G (.ext 4) v1 v2 v3 v4 v7 v8 v9 h)
theorem n22_eq (G : KT7 R) : KC k 141 c22 σ h (Q7 G 1 2 3 4 7 8 9) = W7 (n22 k G) 1 2 3 4 7 8 9 σ h := (kseq (a := c27) (b := c23) rfl (fun σ h => n23_eq k σ h G)).trans (by kernel_rfl)
def l21 {R : Type} (k : Nat) (G : KT4 R) : Nat → GV → GV → GV → GV → GV → GV → GV → Heap → Option R
  | 0, _, _, _, _, _, _, _, _ => none
  | r + 1, v1, v2, v3, v4, v7, v8, v9, h => n22 k (fun x v1 v2 v3 v4 v7 v8 v9 h => kx x (l21 k G r v1 v2 v3 v4 v7 v8 v9 h) (G x v1 v2 v3 v4 h)) v1 v2 v3 v4 v7 v8 v9 h
theorem l21_eq {R : Type} (k : Nat) (G : KT4 R) : ∀ (r : Nat) (σ : GS) (h : Heap), kloop (fun σ h K => KC k 141 c22 σ h K) r σ h (Q4 G 1 2 3 4) = l21 k G r (σ 1) (σ 2) (σ 3) (σ 4) (σ 7) (σ 8) (σ 9) h
  | 0, _, _ => rfl
  | r + 1, σ, h => (kloop_eq (fun σ h => l21_eq k G r σ h)).trans (n22_eq k σ h (fun x v1 v2 v3 v4 v7 v8 v9 h => kx x (l21 k G r v1 v2 v3 v4 v7 v8 v9 h) (G x v1 v2 v3 v4 h)))
@[simp] def n21 (G : KT4 R) (v1 v2 v3 v4 v7 v8 v9 : GV) (h : Heap) := l21 k G k v1 v2 v3 v4 v7 v8 v9 h
theorem n21_eq (G : KT4 R) : KC k 141 c21 σ h (Q4 G 1 2 3 4) = W7 (n21 k G) 1 2 3 4 7 8 9 σ h := (kloopc_eq (a := c22) rfl).trans (l21_eq k G k σ h)
@[simp] def n20 (G : KT4 R) (v1 v2 v3 v4 v7 v8 v9 : GV) (h : Heap) := n21 k (fun x v1 v2 v3 v4 h => kb 4 x fun x => G x v1 v2 v3 v4 h) v1 v2 v3 v4 v7 v8 v9 h
theorem n20_eq (G : KT4 R) : KC k 141 c20 σ h (Q4 G 1 2 3 4) = W7 (n20 k G) 1 2 3 4 7 8 9 σ h := (kblock_eq (a := c21) rfl).trans (n21_eq k σ h (fun x v1 v2 v3 v4 h => kb 4 x fun x => G x v1 v2 v3 v4 h))
noncomputable def c28 := cL c19
@[simp] def n19 (G : KT4 R) (v1 v2 v3 v4 v7 v8 : GV) (h : Heap) := n20 k G v1 v2 v3 v4 v7 v8 (.int .i64 0) h
theorem n19_eq (G : KT4 R) : KC k 141 c19 σ h (Q4 G 1 2 3 4) = W6 (n19 k G) 1 2 3 4 7 8 σ h := (kseq (a := c28) (b := c20) rfl (fun σ h => n20_eq k σ h G)).trans (by kernel_rfl)
noncomputable def c29 := cL c18
@[simp] def n18 (G : KT4 R) (v1 v2 v3 v4 v5 v7 : GV) (h : Heap) := (kfa 1 v5).bind fun v108 => (kload1 h v108).bind fun v109 => n19 k G v1 v2 v3 v4 v7 v109 h
theorem n18_eq (G : KT4 R) : KC k 141 c18 σ h (Q4 G 1 2 3 4) = W6 (n18 k G) 1 2 3 4 5 7 σ h := (kseq (a := c29) (b := c19) rfl (fun σ h => n19_eq k σ h G)).trans (by kernel_rfl)
noncomputable def c30 := cL c17
noncomputable def c31 := cR c30
@[simp] def n31 {R : Type} (k : Nat) (G : KT6 R) (v1 v2 v3 v4 v5 v7 v107 : GV) (h : Heap) := kcond v107 (G .ret v1 (.bool false) v3 v4 v5 v7 h) (G .nrm v1 v2 v3 v4 v5 v7 h)
theorem n31_eq (G : KT6 R) : KC k 141 c31 σ h (Q6 G 1 2 3 4 5 7) = W7 (n31 k G) 1 2 3 4 5 7 107 σ h := by kernel_rfl
noncomputable def c32 := cL c30
noncomputable def o32 : Array Oper := cO c32
@[simp] def g32_2 {R : Type} (k : Nat) (G : KT7 R) (v1 v2 v3 v4 v5 v7 v93 v106 : GV) (rs : List Rec) (h : Heap) := (kpick v93 (.bool true) v106).bind fun v107 => bif chk [(7, 16), (10, 12), (10, 15)] rs then G .nrm v1 v2 v3 v4 v5 v7 v107 h else none
theorem g32_2_eq (G : KT7 R) (rs : List Rec) (σ : GS) (h : Heap) : kgroupsD PP cfg NN HH 141 o32 [(7, 16), (10, 12), (10, 15)] [(none, [19])] rs σ h (fun rs σ h => bif chk [(7, 16), (10, 12), (10, 15)] rs then G .nrm (σ 1) (σ 2) (σ 3) (σ 4) (σ 5) (σ 7) (σ 107) h else none) = g32_2 k G (σ 1) (σ 2) (σ 3) (σ 4) (σ 5) (σ 7) (σ 93) (σ 106) rs h := by kernel_rfl
@[simp] def g32_1 (G : KT7 R) (v1 v2 v3 v4 v5 v7 v93 : GV) (rs : List Rec) (h : Heap) := bif tr false v93 then (kfa 0 v5).bind fun v94 => kold h fun h0 => (kload1 h v94).bind fun v95 => krs (rs ++ [⟨7, h0.length, h.length, ⟨kblk v94, []⟩⟩]) fun rs => (kfa 0 v7).bind fun v96 => (kload1 h v96).bind fun v97 => kold h fun h0 => (kF false HH fn.spec_l17Texts [v97] h).bind fun r => kr r fun v98 h => krs (rs ++ [⟨10, h0.length, h.length, ⟨[v97].flatMap (kborr h0), []⟩⟩]) fun rs => (kfa 1 v1).bind fun v99 => kold h fun h0 => (kload1 h v99).bind fun v100 => krs (rs ++ [⟨12, h0.length, h.length, ⟨kblk v99, []⟩⟩]) fun rs => (kia 1 v100 v4).bind fun v102 => kold h fun h0 => (kload1 h v102).bind fun v103 => krs (rs ++ [⟨15, h0.length, h.length, ⟨kblk v102, []⟩⟩]) fun rs => kold h fun h0 => (kapp [(.str { data := #[] })] 1 16 v98 v103 h).bind fun r => kr r fun v104 h => krs (rs ++ [⟨16, h0.length, h.length, ⟨kblk v98 ++ kblk v103, kblk v98⟩⟩]) fun rs => (kN NN fn.spec_l17Same [v95, v104] h).bind fun v105 => (kun .not v105).bind fun v106 => g32_2 k G v1 v2 v3 v4 v5 v7 v93 v106 rs h else g32_2 k G v1 v2 v3 v4 v5 v7 v93 .un rs h
theorem g32_1_eq (G : KT7 R) (rs : List Rec) (σ : GS) (h : Heap) : kgroupsD PP cfg NN HH 141 o32 [(7, 16), (10, 12), (10, 15)] [(some (5, false), [6, 7, 8, 9, 10, 11, 12, 13, 14, 15, 16, 17, 18]), (none, [19])] rs σ h (fun rs σ h => bif chk [(7, 16), (10, 12), (10, 15)] rs then G .nrm (σ 1) (σ 2) (σ 3) (σ 4) (σ 5) (σ 7) (σ 107) h else none) = g32_1 k G (σ 1) (σ 2) (σ 3) (σ 4) (σ 5) (σ 7) (σ 93) rs h := (kgroupsD_cons (fun rs σ h => g32_2_eq k G rs σ h)).trans (by kernel_rfl)
@[simp] def g32_0 (G : KT7 R) (v1 v2 v3 v4 v5 v7 : GV) (rs : List Rec) (h : Heap) := (kfa 1 v5).bind fun v88 => (kload1 h v88).bind fun v89 => (kfa 1 v7).bind fun v90 => (kload1 h v90).bind fun v91 => (kbin .gtr v89 v91).bind fun v92 => g32_1 k G v1 v2 v3 v4 v5 v7 v92 rs h
theorem g32_0_eq (G : KT7 R) (rs : List Rec) (σ : GS) (h : Heap) : kgroupsD PP cfg NN HH 141 o32 [(7, 16), (10, 12), (10, 15)] [(none, [0, 1, 2, 3, 4, 5]), (some (5, false), [6, 7, 8, 9, 10, 11, 12, 13, 14, 15, 16, 17, 18]), (none, [19])] rs σ h (fun rs σ h => bif chk [(7, 16), (10, 12), (10, 15)] rs then G .nrm (σ 1) (σ 2) (σ 3) (σ 4) (σ 5) (σ 7) (σ 107) h else none) = g32_0 k G (σ 1) (σ 2) (σ 3) (σ 4) (σ 5) (σ 7) rs h := (kgroupsD_cons (fun rs σ h => g32_1_eq k G rs σ h)).trans (by kernel_rfl)
@[simp] def n32 (G : KT7 R) (v1 v2 v3 v4 v5 v7 : GV) (h : Heap) := g32_0 k G v1 v2 v3 v4 v5 v7 [] h
theorem n32_eq (G : KT7 R) : KC k 141 c32 σ h (Q7 G 1 2 3 4 5 7 107) = W6 (n32 k G) 1 2 3 4 5 7 σ h := (kregionD_eq (id := 18) (draw := true) (ops := o32) (gs := [(none, [0, 1, 2, 3, 4, 5]), (some (5, false), [6, 7, 8, 9, 10, 11, 12, 13, 14, 15, 16, 17, 18]), (none, [19])]) (bad := [(7, 16), (10, 12), (10, 15)]) (by kernel_rfl) (by kernel_rfl) (by kernel_rfl) (by kernel_rfl) (by kernel_rfl)).trans (g32_0_eq k G [] σ h)
@[simp] def n30 (G : KT6 R) (v1 v2 v3 v4 v5 v7 : GV) (h : Heap) := n32 k (fun x v1 v2 v3 v4 v5 v7 v107 h => kx x (n31 k G v1 v2 v3 v4 v5 v7 v107 h) (G x v1 v2 v3 v4 v5 v7 h)) v1 v2 v3 v4 v5 v7 h
theorem n30_eq (G : KT6 R) : KC k 141 c30 σ h (Q6 G 1 2 3 4 5 7) = W6 (n30 k G) 1 2 3 4 5 7 σ h := (kseq (b := c31) rfl (fun σ h => n31_eq k σ h G)).trans (n32_eq k σ h (fun x v1 v2 v3 v4 v5 v7 v107 h => kx x (n31 k G v1 v2 v3 v4 v5 v7 v107 h) (G x v1 v2 v3 v4 v5 v7 h)))
@[simp] def n17 (G : KT4 R) (v1 v2 v3 v4 v5 v7 : GV) (h : Heap) := n30 k (fun x v1 v2 v3 v4 v5 v7 h => kx x (n18 k G v1 v2 v3 v4 v5 v7 h) (G x v1 v2 v3 v4 h)) v1 v2 v3 v4 v5 v7 h
theorem n17_eq (G : KT4 R) : KC k 141 c17 σ h (Q4 G 1 2 3 4) = W6 (n17 k G) 1 2 3 4 5 7 σ h := (kseq (b := c18) rfl (fun σ h => n18_eq k σ h G)).trans (n30_eq k σ h (fun x v1 v2 v3 v4 v5 v7 h => kx x (n18 k G v1 v2 v3 v4 v5 v7 h) (G x v1 v2 v3 v4 h)))
noncomputable def c33 := cL c16
@[simp] def n16 (G : KT4 R) (v1 v2 v3 v4 v5 : GV) (h : Heap) := (kfa 0 v1).bind fun v82 => (kload1 h v82).bind fun v83 => (kbin .add v4 (.int .i64 1)).bind fun v85 => (kia 2 v83 v85).bind fun v86 => (kloadA 2 h v86).bind fun v87 => kalloc [.nils, (.int .i64 0)] h fun v7 h => (kstore 2 h v7 v87).bind fun h => n17 k G v1 v2 v3 v4 v5 v7 h
theorem n16_eq (G : KT4 R) : KC k 141 c16 σ h (Q4 G 1 2 3 4) = W5 (n16 k G) 1 2 3 4 5 σ h := (kseq (a := c33) (b := c17) rfl (fun σ h => n17_eq k σ h G)).trans (by kernel_rfl)
noncomputable def c34 := cL c15
@[simp] def n15 (G : KT4 R) (v1 v2 v3 v4 v5 : GV) (h : Heap) := (kbin .sub v3 (.int .i64 1)).bind fun v74 => (kbin .eql v4 v74).bind fun v75 => kcond v75 ((kfa 1 v5).bind fun v76 => (kload1 h v76).bind fun v77 => (kfa 0 v5).bind fun v78 => (kload1 h v78).bind fun v79 => (klen v79).bind fun v80 => (kbin .eql v77 v80).bind fun v81 => G .ret v1 v81 v3 v4 h) (n16 k G v1 v2 v3 v4 v5 h)
theorem n15_eq (G : KT4 R) : KC k 141 c15 σ h (Q4 G 1 2 3 4) = W5 (n15 k G) 1 2 3 4 5 σ h := (kseq (a := c34) (b := c16) rfl (fun σ h => n16_eq k σ h G)).trans (by kernel_rfl)
noncomputable def c35 := cL c14
noncomputable def c36 := cR c35
noncomputable def c37 := cL c36
noncomputable def c38 := cL c37
noncomputable def c39 := cR c38
noncomputable def c40 := cR c39
@[simp] def n40 {R : Type} (k : Nat) (G : KT6 R) (v1 v2 v3 v4 v5 v6 : GV) (h : Heap) := (kbin .add v6 (.int .i64 1)).bind fun v64 => G .nrm v1 v2 v3 v4 v5 v64 h
theorem n40_eq (G : KT6 R) : KC k 141 c40 σ h (Q6 G 1 2 3 4 5 6) = W6 (n40 k G) 1 2 3 4 5 6 σ h := by kernel_rfl
noncomputable def c41 := cL c39
noncomputable def c42 := cL c41
@[simp] def n42 {R : Type} (k : Nat) (G : KT6 R) (v1 v2 v3 v4 v5 v6 : GV) (h : Heap) := (kfa 0 v5).bind fun v65 => (kload1 h v65).bind fun v66 => (kia 1 v66 v6).bind fun v68 => (kload1 h v68).bind fun v69 => (klenS v69).bind fun v70 => (kbin .gtr v70 (.int .i64 200)).bind fun v71 => kcond v71 (G .ret v1 (.bool false) v3 v4 v5 v6 h) (G .nrm v1 v2 v3 v4 v5 v6 h)
theorem n42_eq (G : KT6 R) : KC k 141 c42 σ h (Q6 G 1 2 3 4 5 6) = W6 (n42 k G) 1 2 3 4 5 6 σ h := by kernel_rfl
@[simp] def n41 (G : KT6 R) (v1 v2 v3 v4 v5 v6 : GV) (h : Heap) := n42 k (fun x v1 v2 v3 v4 v5 v6 h => kb 3 x fun x => G x v1 v2 v3 v4 v5 v6 h) v1 v2 v3 v4 v5 v6 h
theorem n41_eq (G : KT6 R) : KC k 141 c41 σ h (Q6 G 1 2 3 4 5 6) = W6 (n41 k G) 1 2 3 4 5 6 σ h := (kblock_eq (a := c42) rfl).trans (n42_eq k σ h (fun x v1 v2 v3 v4 v5 v6 h => kb 3 x fun x => G x v1 v2 v3 v4 v5 v6 h))
@[simp] def n39 (G : KT6 R) (v1 v2 v3 v4 v5 v6 : GV) (h : Heap) := n41 k (fun x v1 v2 v3 v4 v5 v6 h => kx x (n40 k G v1 v2 v3 v4 v5 v6 h) (G x v1 v2 v3 v4 v5 v6 h)) v1 v2 v3 v4 v5 v6 h
theorem n39_eq (G : KT6 R) : KC k 141 c39 σ h (Q6 G 1 2 3 4 5 6) = W6 (n39 k G) 1 2 3 4 5 6 σ h := (kseq (b := c40) rfl (fun σ h => n40_eq k σ h G)).trans (n41_eq k σ h (fun x v1 v2 v3 v4 v5 v6 h => kx x (n40 k G v1 v2 v3 v4 v5 v6 h) (G x v1 v2 v3 v4 v5 v6 h)))
noncomputable def c43 := cL c38
@[simp] def n38 (G : KT6 R) (v1 v2 v3 v4 v5 v6 : GV) (h : Heap) := (kfa 0 v5).bind fun v59 => (kload1 h v59).bind fun v60 => (klen v60).bind fun v61 => (kbin .lss v6 v61).bind fun v62 => kcond v62 (n39 k G v1 v2 v3 v4 v5 v6 h) (G (.ext 2) v1 v2 v3 v4 v5 v6 h)
theorem n38_eq (G : KT6 R) : KC k 141 c38 σ h (Q6 G 1 2 3 4 5 6) = W6 (n38 k G) 1 2 3 4 5 6 σ h := (kseq (a := c43) (b := c39) rfl (fun σ h => n39_eq k σ h G)).trans (by kernel_rfl)
def l37 {R : Type} (k : Nat) (G : KT5 R) : Nat → GV → GV → GV → GV → GV → GV → Heap → Option R
  | 0, _, _, _, _, _, _, _ => none
  | r + 1, v1, v2, v3, v4, v5, v6, h => n38 k (fun x v1 v2 v3 v4 v5 v6 h => kx x (l37 k G r v1 v2 v3 v4 v5 v6 h) (G x v1 v2 v3 v4 v5 h)) v1 v2 v3 v4 v5 v6 h
theorem l37_eq {R : Type} (k : Nat) (G : KT5 R) : ∀ (r : Nat) (σ : GS) (h : Heap), kloop (fun σ h K => KC k 141 c38 σ h K) r σ h (Q5 G 1 2 3 4 5) = l37 k G r (σ 1) (σ 2) (σ 3) (σ 4) (σ 5) (σ 6) h
  | 0, _, _ => rfl
  | r + 1, σ, h => (kloop_eq (fun σ h => l37_eq k G r σ h)).trans (n38_eq k σ h (fun x v1 v2 v3 v4 v5 v6 h => kx x (l37 k G r v1 v2 v3 v4 v5 v6 h) (G x v1 v2 v3 v4 v5 h)))
@[simp] def n37 (G : KT5 R) (v1 v2 v3 v4 v5 v6 : GV) (h : Heap) := l37 k G k v1 v2 v3 v4 v5 v6 h
theorem n37_eq (G : KT5 R) : KC k 141 c37 σ h (Q5 G 1 2 3 4 5) = W6 (n37 k G) 1 2 3 4 5 6 σ h := (kloopc_eq (a := c38) rfl).trans (l37_eq k G k σ h)
@[simp] def n36 (G : KT5 R) (v1 v2 v3 v4 v5 v6 : GV) (h : Heap) := n37 k (fun x v1 v2 v3 v4 v5 h => kb 2 x fun x => G x v1 v2 v3 v4 v5 h) v1 v2 v3 v4 v5 v6 h
theorem n36_eq (G : KT5 R) : KC k 141 c36 σ h (Q5 G 1 2 3 4 5) = W6 (n36 k G) 1 2 3 4 5 6 σ h := (kblock_eq (a := c37) rfl).trans (n37_eq k σ h (fun x v1 v2 v3 v4 v5 h => kb 2 x fun x => G x v1 v2 v3 v4 v5 h))
noncomputable def c44 := cL c35
@[simp] def n35 (G : KT5 R) (v1 v2 v3 v4 v5 : GV) (h : Heap) := n36 k G v1 v2 v3 v4 v5 (.int .i64 0) h
theorem n35_eq (G : KT5 R) : KC k 141 c35 σ h (Q5 G 1 2 3 4 5) = W5 (n35 k G) 1 2 3 4 5 σ h := (kseq (a := c44) (b := c36) rfl (fun σ h => n36_eq k σ h G)).trans (by kernel_rfl)
@[simp] def n14 (G : KT4 R) (v1 v2 v3 v4 v5 : GV) (h : Heap) := n35 k (fun x v1 v2 v3 v4 v5 h => kx x (n15 k G v1 v2 v3 v4 v5 h) (G x v1 v2 v3 v4 h)) v1 v2 v3 v4 v5 h
theorem n14_eq (G : KT4 R) : KC k 141 c14 σ h (Q4 G 1 2 3 4) = W5 (n14 k G) 1 2 3 4 5 σ h := (kseq (b := c15) rfl (fun σ h => n15_eq k σ h G)).trans (n35_eq k σ h (fun x v1 v2 v3 v4 v5 h => kx x (n15 k G v1 v2 v3 v4 v5 h) (G x v1 v2 v3 v4 h)))
noncomputable def c45 := cL c13
noncomputable def c46 := cR c45
@[simp] def n46 {R : Type} (k : Nat) (G : KT5 R) (v1 v2 v3 v4 v5 v57 : GV) (h : Heap) := kcond v57 (G .ret v1 (.bool false) v3 v4 v5 h) (G .nrm v1 v2 v3 v4 v5 h)
theorem n46_eq (G : KT5 R) : KC k 141 c46 σ h (Q5 G 1 2 3 4 5) = W6 (n46 k G) 1 2 3 4 5 57 σ h := by kernel_rfl
noncomputable def c47 := cL c45
noncomputable def o47 : Array Oper := cO c47
@[simp] def g47_2 {R : Type} (k : Nat) (G : KT6 R) (v1 v2 v3 v4 v5 v49 v56 : GV) (h : Heap) := (kpick v49 (.bool true) v56).bind fun v57 => G .nrm v1 v2 v3 v4 v5 v57 h
theorem g47_2_eq (G : KT6 R) : kgroups PP cfg NN HH 141 o47 [(none, [12])] σ h (fun σ h => G .nrm (σ 1) (σ 2) (σ 3) (σ 4) (σ 5) (σ 57) h) = W7 (g47_2 k G) 1 2 3 4 5 49 56 σ h := by kernel_rfl
@[simp] def g47_1 (G : KT6 R) (v1 v2 v3 v4 v5 v49 : GV) (h : Heap) := bif tr false v49 then (kfa 1 v5).bind fun v50 => (kload1 h v50).bind fun v51 => (kfa 0 v5).bind fun v52 => (kload1 h v52).bind fun v53 => (klen v53).bind fun v54 => (kN NN fn.spec_l1In [v51, (.int .i64 0), v54] h).bind fun v55 => (kun .not v55).bind fun v56 => g47_2 k G v1 v2 v3 v4 v5 v49 v56 h else g47_2 k G v1 v2 v3 v4 v5 v49 .un h
theorem g47_1_eq (G : KT6 R) : kgroups PP cfg NN HH 141 o47 [(some (4, false), [5, 6, 7, 8, 9, 10, 11]), (none, [12])] σ h (fun σ h => G .nrm (σ 1) (σ 2) (σ 3) (σ 4) (σ 5) (σ 57) h) = W6 (g47_1 k G) 1 2 3 4 5 49 σ h := (kgroups_cons (fun σ h => g47_2_eq k σ h G)).trans (by kernel_rfl)
@[simp] def g47_0 (G : KT6 R) (v1 v2 v3 v4 v5 : GV) (h : Heap) := (kfa 0 v5).bind fun v45 => (kload1 h v45).bind fun v46 => (klen v46).bind fun v47 => (kbin .gtr v47 (.int .i64 60)).bind fun v48 => g47_1 k G v1 v2 v3 v4 v5 v48 h
theorem g47_0_eq (G : KT6 R) : kgroups PP cfg NN HH 141 o47 [(none, [0, 1, 2, 3, 4]), (some (4, false), [5, 6, 7, 8, 9, 10, 11]), (none, [12])] σ h (fun σ h => G .nrm (σ 1) (σ 2) (σ 3) (σ 4) (σ 5) (σ 57) h) = W5 (g47_0 k G) 1 2 3 4 5 σ h := (kgroups_cons (fun σ h => g47_1_eq k σ h G)).trans (by kernel_rfl)
@[simp] def n47 (G : KT6 R) (v1 v2 v3 v4 v5 : GV) (h : Heap) := g47_0 k G v1 v2 v3 v4 v5 h
theorem n47_eq (G : KT6 R) : KC k 141 c47 σ h (Q6 G 1 2 3 4 5 57) = W5 (n47 k G) 1 2 3 4 5 σ h := (kregion_eq (id := 8) (draw := false) (ops := o47) (gs := [(none, [0, 1, 2, 3, 4]), (some (4, false), [5, 6, 7, 8, 9, 10, 11]), (none, [12])]) (by kernel_rfl) (by kernel_rfl) (by kernel_rfl)).trans (g47_0_eq k σ h G)
@[simp] def n45 (G : KT5 R) (v1 v2 v3 v4 v5 : GV) (h : Heap) := n47 k (fun x v1 v2 v3 v4 v5 v57 h => kx x (n46 k G v1 v2 v3 v4 v5 v57 h) (G x v1 v2 v3 v4 v5 h)) v1 v2 v3 v4 v5 h
theorem n45_eq (G : KT5 R) : KC k 141 c45 σ h (Q5 G 1 2 3 4 5) = W5 (n45 k G) 1 2 3 4 5 σ h := (kseq (b := c46) rfl (fun σ h => n46_eq k σ h G)).trans (n47_eq k σ h (fun x v1 v2 v3 v4 v5 v57 h => kx x (n46 k G v1 v2 v3 v4 v5 v57 h) (G x v1 v2 v3 v4 v5 h)))
@[simp] def n13 (G : KT4 R) (v1 v2 v3 v4 v5 : GV) (h : Heap) := n45 k (fun x v1 v2 v3 v4 v5 h => kx x (n14 k G v1 v2 v3 v4 v5 h) (G x v1 v2 v3 v4 h)) v1 v2 v3 v4 v5 h
theorem n13_eq (G : KT4 R) : KC k 141 c13 σ h (Q4 G 1 2 3 4) = W5 (n13 k G) 1 2 3 4 5 σ h := (kseq (b := c14) rfl (fun σ h => n14_eq k σ h G)).trans (n45_eq k σ h (fun x v1 v2 v3 v4 v5 h => kx x (n14 k G v1 v2 v3 v4 v5 h) (G x v1 v2 v3 v4 h)))
noncomputable def c48 := cL c12
@[simp] def n12 (G : KT4 R) (v1 v2 v3 v4 : GV) (h : Heap) := (kfa 0 v1).bind fun v40 => (kload1 h v40).bind fun v41 => (kia 2 v41 v4).bind fun v43 => (kloadA 2 h v43).bind fun v44 => kalloc [.nils, (.int .i64 0)] h fun v5 h => (kstore 2 h v5 v44).bind fun h => n13 k G v1 v2 v3 v4 v5 h
theorem n12_eq (G : KT4 R) : KC k 141 c12 σ h (Q4 G 1 2 3 4) = W4 (n12 k G) 1 2 3 4 σ h := (kseq (a := c48) (b := c13) rfl (fun σ h => n13_eq k σ h G)).trans (by kernel_rfl)
@[simp] def n11 (G : KT4 R) (v1 v2 v3 v4 : GV) (h : Heap) := n12 k (fun x v1 v2 v3 v4 h => kb 1 x fun x => G x v1 v2 v3 v4 h) v1 v2 v3 v4 h
theorem n11_eq (G : KT4 R) : KC k 141 c11 σ h (Q4 G 1 2 3 4) = W4 (n11 k G) 1 2 3 4 σ h := (kblock_eq (a := c12) rfl).trans (n12_eq k σ h (fun x v1 v2 v3 v4 h => kb 1 x fun x => G x v1 v2 v3 v4 h))
@[simp] def n9 (G : KT4 R) (v1 v2 v3 v4 : GV) (h : Heap) := n11 k (fun x v1 v2 v3 v4 h => kx x (n10 k G v1 v2 v3 v4 h) (G x v1 v2 v3 v4 h)) v1 v2 v3 v4 h
theorem n9_eq (G : KT4 R) : KC k 141 c9 σ h (Q4 G 1 2 3 4) = W4 (n9 k G) 1 2 3 4 σ h := (kseq (b := c10) rfl (fun σ h => n10_eq k σ h G)).trans (n11_eq k σ h (fun x v1 v2 v3 v4 h => kx x (n10 k G v1 v2 v3 v4 h) (G x v1 v2 v3 v4 h)))
noncomputable def c49 := cL c8
@[simp] def n8 (G : KT4 R) (v1 v2 v3 v4 : GV) (h : Heap) := (kbin .lss v4 v3).bind fun v37 => kcond v37 (n9 k G v1 v2 v3 v4 h) (G (.ext 0) v1 v2 v3 v4 h)
theorem n8_eq (G : KT4 R) : KC k 141 c8 σ h (Q4 G 1 2 3 4) = W4 (n8 k G) 1 2 3 4 σ h := (kseq (a := c49) (b := c9) rfl (fun σ h => n9_eq k σ h G)).trans (by kernel_rfl)
def l7 {R : Type} (k : Nat) (G : KT1 R) : Nat → GV → GV → GV → GV → Heap → Option R
  | 0, _, _, _, _, _ => none
  | r + 1, v1, v2, v3, v4, h => n8 k (fun x v1 v2 v3 v4 h => kx x (l7 k G r v1 v2 v3 v4 h) (G x v2 h)) v1 v2 v3 v4 h
theorem l7_eq {R : Type} (k : Nat) (G : KT1 R) : ∀ (r : Nat) (σ : GS) (h : Heap), kloop (fun σ h K => KC k 141 c8 σ h K) r σ h (Q1 G 2) = l7 k G r (σ 1) (σ 2) (σ 3) (σ 4) h
  | 0, _, _ => rfl
  | r + 1, σ, h => (kloop_eq (fun σ h => l7_eq k G r σ h)).trans (n8_eq k σ h (fun x v1 v2 v3 v4 h => kx x (l7 k G r v1 v2 v3 v4 h) (G x v2 h)))
@[simp] def n7 (G : KT1 R) (v1 v2 v3 v4 : GV) (h : Heap) := l7 k G k v1 v2 v3 v4 h
theorem n7_eq (G : KT1 R) : KC k 141 c7 σ h (Q1 G 2) = W4 (n7 k G) 1 2 3 4 σ h := (kloopc_eq (a := c8) rfl).trans (l7_eq k G k σ h)
@[simp] def n6 (G : KT1 R) (v1 v2 v3 v4 : GV) (h : Heap) := n7 k (fun x v2 h => kb 0 x fun x => G x v2 h) v1 v2 v3 v4 h
theorem n6_eq (G : KT1 R) : KC k 141 c6 σ h (Q1 G 2) = W4 (n6 k G) 1 2 3 4 σ h := (kblock_eq (a := c7) rfl).trans (n7_eq k σ h (fun x v2 h => kb 0 x fun x => G x v2 h))
noncomputable def c50 := cL c5
@[simp] def n5 (G : KT1 R) (v1 v2 v3 : GV) (h : Heap) := n6 k G v1 v2 v3 (.int .i64 0) h
theorem n5_eq (G : KT1 R) : KC k 141 c5 σ h (Q1 G 2) = W3 (n5 k G) 1 2 3 σ h := (kseq (a := c50) (b := c6) rfl (fun σ h => n6_eq k σ h G)).trans (by kernel_rfl)
@[simp] def n3 (G : KT1 R) (v1 v2 v3 : GV) (h : Heap) := n5 k (fun x v2 h => kx x (n4 k G h) (G x v2 h)) v1 v2 v3 h
theorem n3_eq (G : KT1 R) : KC k 141 c3 σ h (Q1 G 2) = W3 (n3 k G) 1 2 3 σ h := (kseq (b := c4) rfl (fun σ h => n4_eq k σ h G)).trans (n5_eq k σ h (fun x v2 h => kx x (n4 k G h) (G x v2 h)))
noncomputable def c51 := cL c2
noncomputable def c52 := cR c51
@[simp] def n52 {R : Type} (k : Nat) (G : KT3 R) (v1 v2 v3 v34 : GV) (h : Heap) := kcond v34 (G .ret v1 (.bool false) v3 h) (G .nrm v1 v2 v3 h)
theorem n52_eq (G : KT3 R) : KC k 141 c52 σ h (Q3 G 1 2 3) = W4 (n52 k G) 1 2 3 34 σ h := by kernel_rfl
noncomputable def c53 := cL c51
noncomputable def o53 : Array Oper := cO c53
@[simp] def g53_6 {R : Type} (k : Nat) (G : KT4 R) (v1 v2 v3 v27 v33 : GV) (h : Heap) := (kpick v27 (.bool true) v33).bind fun v34 => G .nrm v1 v2 v3 v34 h
theorem g53_6_eq (G : KT4 R) : kgroups PP cfg NN HH 141 o53 [(none, [21])] σ h (fun σ h => G .nrm (σ 1) (σ 2) (σ 3) (σ 34) h) = W5 (g53_6 k G) 1 2 3 27 33 σ h := by kernel_rfl
@[simp] def g53_5 (G : KT4 R) (v1 v2 v3 v27 : GV) (h : Heap) := bif tr false v27 then (kfa 2 v1).bind fun v28 => (kload1 h v28).bind fun v29 => (klen v29).bind fun v30 => (kbin .sub v3 (.int .i64 1)).bind fun v32 => (kbin .neq v30 v32).bind fun v33 => g53_6 k G v1 v2 v3 v27 v33 h else g53_6 k G v1 v2 v3 v27 .un h
theorem g53_5_eq (G : KT4 R) : kgroups PP cfg NN HH 141 o53 [(some (14, false), [15, 16, 17, 18, 19, 20]), (none, [21])] σ h (fun σ h => G .nrm (σ 1) (σ 2) (σ 3) (σ 34) h) = W4 (g53_5 k G) 1 2 3 27 σ h := (kgroups_cons (fun σ h => g53_6_eq k σ h G)).trans (by kernel_rfl)
@[simp] def g53_4 (G : KT4 R) (v1 v2 v3 v19 v25 : GV) (h : Heap) := (kpick v19 (.bool true) v25).bind fun v26 => g53_5 k G v1 v2 v3 v26 h
theorem g53_4_eq (G : KT4 R) : kgroups PP cfg NN HH 141 o53 [(none, [13, 14]), (some (14, false), [15, 16, 17, 18, 19, 20]), (none, [21])] σ h (fun σ h => G .nrm (σ 1) (σ 2) (σ 3) (σ 34) h) = W5 (g53_4 k G) 1 2 3 19 25 σ h := (kgroups_cons (fun σ h => g53_5_eq k σ h G)).trans (by kernel_rfl)
@[simp] def g53_3 (G : KT4 R) (v1 v2 v3 v19 : GV) (h : Heap) := bif tr false v19 then (kfa 1 v1).bind fun v20 => (kload1 h v20).bind fun v21 => (klen v21).bind fun v22 => (kbin .sub v3 (.int .i64 1)).bind fun v24 => (kbin .neq v22 v24).bind fun v25 => g53_4 k G v1 v2 v3 v19 v25 h else g53_4 k G v1 v2 v3 v19 .un h
theorem g53_3_eq (G : KT4 R) : kgroups PP cfg NN HH 141 o53 [(some (6, false), [7, 8, 9, 10, 11, 12]), (none, [13, 14]), (some (14, false), [15, 16, 17, 18, 19, 20]), (none, [21])] σ h (fun σ h => G .nrm (σ 1) (σ 2) (σ 3) (σ 34) h) = W4 (g53_3 k G) 1 2 3 19 σ h := (kgroups_cons (fun σ h => g53_4_eq k σ h G)).trans (by kernel_rfl)
@[simp] def g53_2 (G : KT4 R) (v1 v2 v3 v15 v17 : GV) (h : Heap) := (kpick v15 (.bool true) v17).bind fun v18 => g53_3 k G v1 v2 v3 v18 h
theorem g53_2_eq (G : KT4 R) : kgroups PP cfg NN HH 141 o53 [(none, [5, 6]), (some (6, false), [7, 8, 9, 10, 11, 12]), (none, [13, 14]), (some (14, false), [15, 16, 17, 18, 19, 20]), (none, [21])] σ h (fun σ h => G .nrm (σ 1) (σ 2) (σ 3) (σ 34) h) = W5 (g53_2 k G) 1 2 3 15 17 σ h := (kgroups_cons (fun σ h => g53_3_eq k σ h G)).trans (by kernel_rfl)
@[simp] def g53_1 (G : KT4 R) (v1 v2 v3 v15 : GV) (h : Heap) := bif tr false v15 then (kbin .gtr v3 (.int .i64 5)).bind fun v17 => g53_2 k G v1 v2 v3 v15 v17 h else g53_2 k G v1 v2 v3 v15 .un h
theorem g53_1_eq (G : KT4 R) : kgroups PP cfg NN HH 141 o53 [(some (2, false), [3, 4]), (none, [5, 6]), (some (6, false), [7, 8, 9, 10, 11, 12]), (none, [13, 14]), (some (14, false), [15, 16, 17, 18, 19, 20]), (none, [21])] σ h (fun σ h => G .nrm (σ 1) (σ 2) (σ 3) (σ 34) h) = W4 (g53_1 k G) 1 2 3 15 σ h := (kgroups_cons (fun σ h => g53_2_eq k σ h G)).trans (by kernel_rfl)
@[simp] def g53_0 (G : KT4 R) (v1 v2 v3 : GV) (h : Heap) := (kbin .lss v3 (.int .i64 1)).bind fun v14 => g53_1 k G v1 v2 v3 v14 h
theorem g53_0_eq (G : KT4 R) : kgroups PP cfg NN HH 141 o53 [(none, [0, 1, 2]), (some (2, false), [3, 4]), (none, [5, 6]), (some (6, false), [7, 8, 9, 10, 11, 12]), (none, [13, 14]), (some (14, false), [15, 16, 17, 18, 19, 20]), (none, [21])] σ h (fun σ h => G .nrm (σ 1) (σ 2) (σ 3) (σ 34) h) = W3 (g53_0 k G) 1 2 3 σ h := (kgroups_cons (fun σ h => g53_1_eq k σ h G)).trans (by kernel_rfl)
@[simp] def n53 (G : KT4 R) (v1 v2 v3 : GV) (h : Heap) := g53_0 k G v1 v2 v3 h
theorem n53_eq (G : KT4 R) : KC k 141 c53 σ h (Q4 G 1 2 3 34) = W3 (n53 k G) 1 2 3 σ h := (kregion_eq (id := 2) (draw := false) (ops := o53) (gs := [(none, [0, 1, 2]), (some (2, false), [3, 4]), (none, [5, 6]), (some (6, false), [7, 8, 9, 10, 11, 12]), (none, [13, 14]), (some (14, false), [15, 16, 17, 18, 19, 20]), (none, [21])]) (by kernel_rfl) (by kernel_rfl) (by kernel_rfl)).trans (g53_0_eq k σ h G)
@[simp] def n51 (G : KT3 R) (v1 v2 v3 : GV) (h : Heap) := n53 k (fun x v1 v2 v3 v34 h => kx x (n52 k G v1 v2 v3 v34 h) (G x v1 v2 v3 h)) v1 v2 v3 h
theorem n51_eq (G : KT3 R) : KC k 141 c51 σ h (Q3 G 1 2 3) = W3 (n51 k G) 1 2 3 σ h := (kseq (b := c52) rfl (fun σ h => n52_eq k σ h G)).trans (n53_eq k σ h (fun x v1 v2 v3 v34 h => kx x (n52 k G v1 v2 v3 v34 h) (G x v1 v2 v3 h)))
@[simp] def n2 (G : KT1 R) (v1 v2 v3 : GV) (h : Heap) := n51 k (fun x v1 v2 v3 h => kx x (n3 k G v1 v2 v3 h) (G x v2 h)) v1 v2 v3 h
theorem n2_eq (G : KT1 R) : KC k 141 c2 σ h (Q1 G 2) = W3 (n2 k G) 1 2 3 σ h := (kseq (b := c3) rfl (fun σ h => n3_eq k σ h G)).trans (n51_eq k σ h (fun x v1 v2 v3 h => kx x (n3 k G v1 v2 v3 h) (G x v2 h)))
noncomputable def c54 := cL c1
@[simp] def n1 (G : KT1 R) (v1 v2 : GV) (h : Heap) := (kfa 0 v1).bind fun v10 => (kload1 h v10).bind fun v11 => (klen v11).bind fun v12 => n2 k G v1 v2 v12 h
theorem n1_eq (G : KT1 R) : KC k 141 c1 σ h (Q1 G 2) = W2 (n1 k G) 1 2 σ h := (kseq (a := c54) (b := c2) rfl (fun σ h => n2_eq k σ h G)).trans (by kernel_rfl)
noncomputable def c55 := cL c0
@[simp] def n0 (G : KT1 R) (v0 : GV) (h : Heap) := kbox v0 h fun v1 h => n1 k G v1 (.bool false) h
theorem n0_eq (G : KT1 R) : KC k 141 c0 σ h (Q1 G 2) = n0 k G (σ 0) h := (kseq (a := c55) (b := c1) rfl (fun σ h => n1_eq k σ h G)).trans (by kernel_rfl)
def run {R : Type} (k : Nat) (a0 : GV) (h : Heap) (fin : GV → Heap → Option R) : Option R := n0 k (fun x v2 h => kend x (fin v2 h)) a0 h
theorem gives {k : Nat} {a0 : GV} {v : GV} (e : run k a0 [] finN = some v) : NN fn.spec_ChainOk [a0] = some v := nω_of (by kernel_rfl) (((kfun_eq (nt := 141) (c := c0) (show PP.funcs[fn.spec_ChainOk]? = some Try.f26 by kernel_rfl) (by kernel_rfl) (by kernel_rfl) (fun x σ h => by cases x <;> kernel_rfl)).trans (n0_eq k _ [] _)).trans e)
end S.spec_ChainOk
namespace S.impl_ChainOk
noncomputable def c0 := bodyOf Try.f42
noncomputable def c1 := cR c0
noncomputable def c2 := cR c1
noncomputable def c3 := cR c2
noncomputable def c4 := cR c3
@[simp] def n4 {R : Type} (k : Nat) (G : KT1 R) (v1 v2 v3 : GV) (h : Heap) := (kfa 0 v1).bind fun v85 => (kload1 h v85).bind fun v86 => (kbin .sub v3 (.int .i64 1)).bind fun v88 => (kia 2 v86 v88).bind fun v89 => (kloadA 2 h v89).bind fun v90 => kalloc [.nils, (.int .i64 0)] h fun v7 h => (kstore 2 h v7 v90).bind fun h => (kfa 1 v7).bind fun v91 => (kload1 h v91).bind fun v92 => (kfa 0 v7).bind fun v93 => (kload1 h v93).bind fun v94 => (klen v94).bind fun v95 => (kbin .eql v92 v95).bind fun v96 => G .ret v96 h
theorem n4_eq (G : KT1 R) : KC k 97 c4 σ h (Q1 G 2) = W3 (n4 k G) 1 2 3 σ h := by kernel_rfl
noncomputable def c5 := cL c3
noncomputable def c6 := cR c5
noncomputable def c7 := cL c6
noncomputable def c8 := cL c7
noncomputable def c9 := cR c8
noncomputable def c10 := cR c9
noncomputable def c11 := cR c10
@[simp] def n11 {R : Type} (k : Nat) (G : KT5 R) (v1 v2 v3 v36 v37 : GV) (h : Heap) := (kbin .add v37 (.int .i64 1)).bind fun v84 => G .nrm v1 v2 v3 v36 v84 h
theorem n11_eq (G : KT5 R) : KC k 97 c11 σ h (Q5 G 1 2 3 36 37) = W5 (n11 k G) 1 2 3 36 37 σ h := by kernel_rfl
noncomputable def c12 := cL c10
noncomputable def c13 := cL c12
noncomputable def c14 := cR c13
noncomputable def c15 := cR c14
noncomputable def c16 := cR c15
@[simp] def n16 {R : Type} (k : Nat) (G : KT5 R) (v1 v2 v3 v36 v37 v83 : GV) (h : Heap) := kcond v83 (G .ret v1 (.bool false) v3 v36 v37 h) (G .nrm v1 v2 v3 v36 v37 h)
theorem n16_eq (G : KT5 R) : KC k 97 c16 σ h (Q5 G 1 2 3 36 37) = W6 (n16 k G) 1 2 3 36 37 83 σ h := by kernel_rfl
noncomputable def c17 := cL c15
noncomputable def o17 : Array Oper := cO c17
@[simp] def g17_4 {R : Type} (k : Nat) (G : KT6 R) (v1 v2 v3 v36 v37 v71 v82 : GV) (h : Heap) := (kpick v71 (.bool true) v82).bind fun v83 => G .nrm v1 v2 v3 v36 v37 v83 h
theorem g17_4_eq (G : KT6 R) : kgroups PP cfg NN HH 97 o17 [(none, [32])] σ h (fun σ h => G .nrm (σ 1) (σ 2) (σ 3) (σ 36) (σ 37) (σ 83) h) = W7 (g17_4 k G) 1 2 3 36 37 71 82 σ h := by kernel_rfl
@[simp] def g17_3 (G : KT6 R) (v1 v2 v3 v4 v5 v6 v36 v37 v71 : GV) (h : Heap) := bif tr false v71 then (kfa 2 v1).bind fun v72 => (kload1 h v72).bind fun v73 => (kia 1 v73 v4).bind fun v75 => (kload1 h v75).bind fun v76 => (kfa 1 v5).bind fun v77 => (kload1 h v77).bind fun v78 => (kfa 1 v6).bind fun v79 => (kload1 h v79).bind fun v80 => (kN NN fn.impl_areUp [v76, v78, v80] h).bind fun v81 => (kun .not v81).bind fun v82 => g17_4 k G v1 v2 v3 v36 v37 v71 v82 h else g17_4 k G v1 v2 v3 v36 v37 v71 .un h
theorem g17_3_eq (G : KT6 R) : kgroups PP cfg NN HH 97 o17 [(some (20, false), [21, 22, 23, 24, 25, 26, 27, 28, 29, 30, 31]), (none, [32])] σ h (fun σ h => G .nrm (σ 1) (σ 2) (σ 3) (σ 36) (σ 37) (σ 83) h) = W9 (g17_3 k G) 1 2 3 4 5 6 36 37 71 σ h := (kgroups_cons (fun σ h => g17_4_eq k σ h G)).trans (by kernel_rfl)
@[simp] def g17_2 (G : KT6 R) (v1 v2 v3 v4 v5 v6 v36 v37 v56 v69 : GV) (h : Heap) := (kpick v56 (.bool true) v69).bind fun v70 => g17_3 k G v1 v2 v3 v4 v5 v6 v36 v37 v70 h
theorem g17_2_eq (G : KT6 R) : kgroups PP cfg NN HH 97 o17 [(none, [19, 20]), (some (20, false), [21, 22, 23, 24, 25, 26, 27, 28, 29, 30, 31]), (none, [32])] σ h (fun σ h => G .nrm (σ 1) (σ 2) (σ 3) (σ 36) (σ 37) (σ 83) h) = W10 (g17_2 k G) 1 2 3 4 5 6 36 37 56 69 σ h := (kgroups_cons (fun σ h => g17_3_eq k σ h G)).trans (by kernel_rfl)
@[simp] def g17_1 (G : KT6 R) (v1 v2 v3 v4 v5 v6 v36 v37 v56 : GV) (h : Heap) := bif tr false v56 then (kfa 0 v5).bind fun v57 => (kload1 h v57).bind fun v58 => (kfa 0 v6).bind fun v59 => (kload1 h v59).bind fun v60 => (kfa 1 v1).bind fun v61 => (kload1 h v61).bind fun v62 => (kia 1 v62 v4).bind fun v64 => (kload1 h v64).bind fun v65 => (gfill (fun i => some (i * 1, 1)) (zeros [.nils] 2) [(0, v60), (1, v65)]).bind fun c => kbs 2 1 c h fun v66 h => (kN NN fn.slices_Concat_string [v66] h).bind fun v67 => (kN NN fn.slices_Equal_string [v58, v67] h).bind fun v68 => (kun .not v68).bind fun v69 => g17_2 k G v1 v2 v3 v4 v5 v6 v36 v37 v56 v69 h else g17_2 k G v1 v2 v3 v4 v5 v6 v36 v37 v56 .un h
theorem g17_1_eq (G : KT6 R) : kgroups PP cfg NN HH 97 o17 [(some (5, false), [6, 7, 8, 9, 10, 11, 12, 13, 14, 15, 16, 17, 18]), (none, [19, 20]), (some (20, false), [21, 22, 23, 24, 25, 26, 27, 28, 29, 30, 31]), (none, [32])] σ h (fun σ h => G .nrm (σ 1) (σ 2) (σ 3) (σ 36) (σ 37) (σ 83) h) = W9 (g17_1 k G) 1 2 3 4 5 6 36 37 56 σ h := (kgroups_cons (fun σ h => g17_2_eq k σ h G)).trans (by kernel_rfl)
@[simp] def g17_0 (G : KT6 R) (v1 v2 v3 v4 v5 v6 v36 v37 : GV) (h : Heap) := (kfa 1 v5).bind fun v51 => (kload1 h v51).bind fun v52 => (kfa 1 v6).bind fun v53 => (kload1 h v53).bind fun v54 => (kbin .gtr v52 v54).bind fun v55 => g17_1 k G v1 v2 v3 v4 v5 v6 v36 v37 v55 h
theorem g17_0_eq (G : KT6 R) : kgroups PP cfg NN HH 97 o17 [(none, [0, 1, 2, 3, 4, 5]), (some (5, false), [6, 7, 8, 9, 10, 11, 12, 13, 14, 15, 16, 17, 18]), (none, [19, 20]), (some (20, false), [21, 22, 23, 24, 25, 26, 27, 28, 29, 30, 31]), (none, [32])] σ h (fun σ h => G .nrm (σ 1) (σ 2) (σ 3) (σ 36) (σ 37) (σ 83) h) = W8 (g17_0 k G) 1 2 3 4 5 6 36 37 σ h := (kgroups_cons (fun σ h => g17_1_eq k σ h G)).trans (by kernel_rfl)
@[simp] def n17 (G : KT6 R) (v1 v2 v3 v4 v5 v6 v36 v37 : GV) (h : Heap) := g17_0 k G v1 v2 v3 v4 v5 v6 v36 v37 h
theorem n17_eq (G : KT6 R) : KC k 97 c17 σ h (Q6 G 1 2 3 36 37 83) = W8 (n17 k G) 1 2 3 4 5 6 36 37 σ h := (kregion_eq (id := 8) (draw := true) (ops := o17) (gs := [(none, [0, 1, 2, 3, 4, 5]), (some (5, false), [6, 7, 8, 9, 10, 11, 12, 13, 14, 15, 16, 17, 18]), (none, [19, 20]), (some (20, false), [21, 22, 23, 24, 25, 26, 27, 28, 29, 30, 31]), (none, [32])]) (by kernel_rfl) (by kernel_rfl) (by kernel_rfl)).trans (g17_0_eq k σ h G)
@[simp] def n15 (G : KT5 R) (v1 v2 v3 v4 v5 v6 v36 v37 : GV) (h : Heap) := n17 k (fun x v1 v2 v3 v36 v37 v83 h => kx x (n16 k G v1 v2 v3 v36 v37 v83 h) (G x v1 v2 v3 v36 v37 h)) v1 v2 v3 v4 v5 v6 v36 v37 h
theorem n15_eq (G : KT5 R) : KC k 97 c15 σ h (Q5 G 1 2 3 36 37) = W8 (n15 k G) 1 2 3 4 5 6 36 37 σ h := (kseq (b := c16) rfl (fun σ h => n16_eq k σ h G)).trans (n17_eq k σ h (fun x v1 v2 v3 v36 v37 v83 h => kx x (n16 k G v1 v2 v3 v36 v37 v83 h) (G x v1 v2 v3 v36 v37 h)))
noncomputable def c18 := cL c14
noncomputable def o18 : Array Oper := cO c18
@[simp] def g18_0 {R : Type} (k : Nat) (G : KT8 R) (v1 v2 v3 v4 v36 v37 : GV) (rs : List Rec) (h : Heap) := (kfa 0 v1).bind fun v40 => (kload1 h v40).bind fun v41 => (kia 2 v41 v4).bind fun v43 => (kloadA 2 h v43).bind fun v44 => (kfa 0 v1).bind fun v45 => kold h fun h0 => (kload1 h v45).bind fun v46 => krs (rs ++ [⟨6, h0.length, h.length, ⟨kblk v45, []⟩⟩]) fun rs => (kbin .add v4 (.int .i64 1)).bind fun v48 => (kia 2 v46 v48).bind fun v49 => kold h fun h0 => (kloadA 2 h v49).bind fun v50 => krs (rs ++ [⟨10, h0.length, h.length, ⟨kblk v49, []⟩⟩]) fun rs => kalloc [.nils, (.int .i64 0)] h fun v5 h => kalloc [.nils, (.int .i64 0)] h fun v6 h => kold h fun h0 => (kstore 2 h v5 v44).bind fun h => krs (rs ++ [⟨13, h0.length, h.length, ⟨[], kblk v5⟩⟩]) fun rs => (kstore 2 h v6 v50).bind fun h => bif chk [(6, 13), (10, 13)] rs then G .nrm v1 v2 v3 v4 v5 v6 v36 v37 h else none
theorem g18_0_eq (G : KT8 R) (rs : List Rec) (σ : GS) (h : Heap) : kgroupsD PP cfg NN HH 97 o18 [(6, 13), (10, 13)] [(none, [0, 1, 2, 3, 4, 5, 6, 7, 8, 9, 10, 11, 12, 13, 14])] rs σ h (fun rs σ h => bif chk [(6, 13), (10, 13)] rs then G .nrm (σ 1) (σ 2) (σ 3) (σ 4) (σ 5) (σ 6) (σ 36) (σ 37) h else none) = g18_0 k G (σ 1) (σ 2) (σ 3) (σ 4) (σ 36) (σ 37) rs h := by kernel_rfl
@[simp] def n18 (G : KT8 R) (v1 v2 v3 v4 v36 v37 : GV) (h : Heap) := g18_0 k G v1 v2 v3 v4 v36 v37 [] h
theorem n18_eq (G : KT8 R) : KC k 97 c18 σ h (Q8 G 1 2 3 4 5 6 36 37) = W6 (n18 k G) 1 2 3 4 36 37 σ h := (kregionD_eq (id := 7) (draw := true) (ops := o18) (gs := [(none, [0, 1, 2, 3, 4, 5, 6, 7, 8, 9, 10, 11, 12, 13, 14])]) (bad := [(6, 13), (10, 13)]) (by kernel_rfl) (by kernel_rfl) (by kernel_rfl) (by kernel_rfl) (by kernel_rfl)).trans (g18_0_eq k G [] σ h)
@[simp] def n14 (G : KT5 R) (v1 v2 v3 v4 v36 v37 : GV) (h : Heap) := n18 k (fun x v1 v2 v3 v4 v5 v6 v36 v37 h => kx x (n15 k G v1 v2 v3 v4 v5 v6 v36 v37 h) (G x v1 v2 v3 v36 v37 h)) v1 v2 v3 v4 v36 v37 h
theorem n14_eq (G : KT5 R) : KC k 97 c14 σ h (Q5 G 1 2 3 36 37) = W6 (n14 k G) 1 2 3 4 36 37 σ h := (kseq (b := c15) rfl (fun σ h => n15_eq k σ h G)).trans (n18_eq k σ h (fun x v1 v2 v3 v4 v5 v6 v36 v37 h => kx x (n15 k G v1 v2 v3 v4 v5 v6 v36 v37 h) (G x v1 v2 v3 v36 v37 h)))
noncomputable def c19 := cL c13
@[simp] def n13 (G : KT5 R) (v1 v2 v3 v36 v37 : GV) (h : Heap) := n14 k G v1 v2 v3 v37 v36 v37 h
theorem n13_eq (G : KT5 R) : KC k 97 c13 σ h (Q5 G 1 2 3 36 37) = W5 (n13 k G) 1 2 3 36 37 σ h := (kseq (a := c19) (b := c14) rfl (fun σ h => n14_eq k σ h G)).trans (by kernel_rfl)
@[simp] def n12 (G : KT5 R) (v1 v2 v3 v36 v37 : GV) (h : Heap) := n13 k (fun x v1 v2 v3 v36 v37 h => kb 1 x fun x => G x v1 v2 v3 v36 v37 h) v1 v2 v3 v36 v37 h
theorem n12_eq (G : KT5 R) : KC k 97 c12 σ h (Q5 G 1 2 3 36 37) = W5 (n12 k G) 1 2 3 36 37 σ h := (kblock_eq (a := c13) rfl).trans (n13_eq k σ h (fun x v1 v2 v3 v36 v37 h => kb 1 x fun x => G x v1 v2 v3 v36 v37 h))
@[simp] def n10 (G : KT5 R) (v1 v2 v3 v36 v37 : GV) (h : Heap) := n12 k (fun x v1 v2 v3 v36 v37 h => kx x (n11 k G v1 v2 v3 v36 v37 h) (G x v1 v2 v3 v36 v37 h)) v1 v2 v3 v36 v37 h
theorem n10_eq (G : KT5 R) : KC k 97 c10 σ h (Q5 G 1 2 3 36 37) = W5 (n10 k G) 1 2 3 36 37 σ h := (kseq (b := c11) rfl (fun σ h => n11_eq k σ h G)).trans (n12_eq k σ h (fun x v1 v2 v3 v36 v37 h => kx x (n11 k G v1 v2 v3 v36 v37 h) (G x v1 v2 v3 v36 v37 h)))
noncomputable def c20 := cL c9
@[simp] def n9 (G : KT5 R) (v1 v2 v3 v36 v37 v38 : GV) (h : Heap) := kcond v38 (n10 k G v1 v2 v3 v36 v37 h) (G (.ext 0) v1 v2 v3 v36 v37 h)
theorem n9_eq (G : KT5 R) : KC k 97 c9 σ h (Q5 G 1 2 3 36 37) = W6 (n9 k G) 1 2 3 36 37 38 σ h := (kseq (a := c20) (b := c10) rfl (fun σ h => n10_eq k σ h G)).trans (by kernel_rfl)
noncomputable def c21 := cL c8
@[simp] def n8 (G : KT5 R) (v1 v2 v3 v36 v37 : GV) (h : Heap) := (kbin .lss v37 v36).bind fun v38 => n9 k G v1 v2 v3 v36 v37 v38 h
theorem n8_eq (G : KT5 R) : KC k 97 c8 σ h (Q5 G 1 2 3 36 37) = W5 (n8 k G) 1 2 3 36 37 σ h := (kseq (a := c21) (b := c9) rfl (fun σ h => n9_eq k σ h G)).trans (by kernel_rfl)
def l7 {R : Type} (k : Nat) (G : KT3 R) : Nat → GV → GV → GV → GV → GV → Heap → Option R
  | 0, _, _, _, _, _, _ => none
  | r + 1, v1, v2, v3, v36, v37, h => n8 k (fun x v1 v2 v3 v36 v37 h => kx x (l7 k G r v1 v2 v3 v36 v37 h) (G x v1 v2 v3 h)) v1 v2 v3 v36 v37 h
theorem l7_eq {R : Type} (k : Nat) (G : KT3 R) : ∀ (r : Nat) (σ : GS) (h : Heap), kloop (fun σ h K => KC k 97 c8 σ h K) r σ h (Q3 G 1 2 3) = l7 k G r (σ 1) (σ 2) (σ 3) (σ 36) (σ 37) h
  | 0, _, _ => rfl
  | r + 1, σ, h => (kloop_eq (fun σ h => l7_eq k G r σ h)).trans (n8_eq k σ h (fun x v1 v2 v3 v36 v37 h => kx x (l7 k G r v1 v2 v3 v36 v37 h) (G x v1 v2 v3 h)))
@[simp] def n7 (G : KT3 R) (v1 v2 v3 v36 v37 : GV) (h : Heap) := l7 k G k v1 v2 v3 v36 v37 h
theorem n7_eq (G : KT3 R) : KC k 97 c7 σ h (Q3 G 1 2 3) = W5 (n7 k G) 1 2 3 36 37 σ h := (kloopc_eq (a := c8) rfl).trans (l7_eq k G k σ h)
@[simp] def n6 (G : KT3 R) (v1 v2 v3 v36 v37 : GV) (h : Heap) := n7 k (fun x v1 v2 v3 h => kb 0 x fun x => G x v1 v2 v3 h) v1 v2 v3 v36 v37 h
theorem n6_eq (G : KT3 R) : KC k 97 c6 σ h (Q3 G 1 2 3) = W5 (n6 k G) 1 2 3 36 37 σ h := (kblock_eq (a := c7) rfl).trans (n7_eq k σ h (fun x v1 v2 v3 h => kb 0 x fun x => G x v1 v2 v3 h))
noncomputable def c22 := cL c5
@[simp] def n5 (G : KT3 R) (v1 v2 v3 : GV) (h : Heap) := (kbin .sub v3 (.int .i64 1)).bind fun v36 => n6 k G v1 v2 v3 v36 (.int .i64 0) h
theorem n5_eq (G : KT3 R) : KC k 97 c5 σ h (Q3 G 1 2 3) = W3 (n5 k G) 1 2 3 σ h := (kseq (a := c22) (b := c6) rfl (fun σ h => n6_eq k σ h G)).trans (by kernel_rfl)
@[simp] def n3 (G : KT1 R) (v1 v2 v3 : GV) (h : Heap) := n5 k (fun x v1 v2 v3 h => kx x (n4 k G v1 v2 v3 h) (G x v2 h)) v1 v2 v3 h
theorem n3_eq (G : KT1 R) : KC k 97 c3 σ h (Q1 G 2) = W3 (n3 k G) 1 2 3 σ h := (kseq (b := c4) rfl (fun σ h => n4_eq k σ h G)).trans (n5_eq k σ h (fun x v1 v2 v3 h => kx x (n4 k G v1 v2 v3 h) (G x v2 h)))
noncomputable def c23 := cL c2
noncomputable def c24 := cR c23
@[simp] def n24 {R : Type} (k : Nat) (G : KT3 R) (v1 v2 v3 v34 : GV) (h : Heap) := kcond v34 (G .ret v1 (.bool false) v3 h) (G .nrm v1 v2 v3 h)
theorem n24_eq (G : KT3 R) : KC k 97 c24 σ h (Q3 G 1 2 3) = W4 (n24 k G) 1 2 3 34 σ h := by kernel_rfl
noncomputable def c25 := cL c23
noncomputable def o25 : Array Oper := cO c25
@[simp] def g25_6 {R : Type} (k : Nat) (G : KT4 R) (v1 v2 v3 v30 v33 : GV) (h : Heap) := (kpick v30 (.bool true) v33).bind fun v34 => G .nrm v1 v2 v3 v34 h
theorem g25_6_eq (G : KT4 R) : kgroups PP cfg NN HH 97 o25 [(none, [23])] σ h (fun σ h => G .nrm (σ 1) (σ 2) (σ 3) (σ 34) h) = W5 (g25_6 k G) 1 2 3 30 33 σ h := by kernel_rfl
@[simp] def g25_5 (G : KT4 R) (v1 v2 v3 v30 : GV) (h : Heap) := bif tr false v30 then (kfa 0 v1).bind fun v31 => (kload1 h v31).bind fun v32 => (kN NN fn.slices_ContainsFunc_impl_Server [v32, (.fn fn.impl_ChainOk_1 [])] h).bind fun v33 => g25_6 k G v1 v2 v3 v30 v33 h else g25_6 k G v1 v2 v3 v30 .un h
theorem g25_5_eq (G : KT4 R) : kgroups PP cfg NN HH 97 o25 [(some (19, false), [20, 21, 22]), (none, [23])] σ h (fun σ h => G .nrm (σ 1) (σ 2) (σ 3) (σ 34) h) = W4 (g25_5 k G) 1 2 3 30 σ h := (kgroups_cons (fun σ h => g25_6_eq k σ h G)).trans (by kernel_rfl)
@[simp] def g25_4 (G : KT4 R) (v1 v2 v3 v22 v28 : GV) (h : Heap) := (kpick v22 (.bool true) v28).bind fun v29 => g25_5 k G v1 v2 v3 v29 h
theorem g25_4_eq (G : KT4 R) : kgroups PP cfg NN HH 97 o25 [(none, [18, 19]), (some (19, false), [20, 21, 22]), (none, [23])] σ h (fun σ h => G .nrm (σ 1) (σ 2) (σ 3) (σ 34) h) = W5 (g25_4 k G) 1 2 3 22 28 σ h := (kgroups_cons (fun σ h => g25_5_eq k σ h G)).trans (by kernel_rfl)
@[simp] def g25_3 (G : KT4 R) (v1 v2 v3 v22 : GV) (h : Heap) := bif tr false v22 then (kfa 2 v1).bind fun v23 => (kload1 h v23).bind fun v24 => (klen v24).bind fun v25 => (kbin .sub v3 (.int .i64 1)).bind fun v27 => (kbin .neq v25 v27).bind fun v28 => g25_4 k G v1 v2 v3 v22 v28 h else g25_4 k G v1 v2 v3 v22 .un h
theorem g25_3_eq (G : KT4 R) : kgroups PP cfg NN HH 97 o25 [(some (11, false), [12, 13, 14, 15, 16, 17]), (none, [18, 19]), (some (19, false), [20, 21, 22]), (none, [23])] σ h (fun σ h => G .nrm (σ 1) (σ 2) (σ 3) (σ 34) h) = W4 (g25_3 k G) 1 2 3 22 σ h := (kgroups_cons (fun σ h => g25_4_eq k σ h G)).trans (by kernel_rfl)
@[simp] def g25_2 (G : KT4 R) (v1 v2 v3 v14 v20 : GV) (h : Heap) := (kpick v14 (.bool true) v20).bind fun v21 => g25_3 k G v1 v2 v3 v21 h
theorem g25_2_eq (G : KT4 R) : kgroups PP cfg NN HH 97 o25 [(none, [10, 11]), (some (11, false), [12, 13, 14, 15, 16, 17]), (none, [18, 19]), (some (19, false), [20, 21, 22]), (none, [23])] σ h (fun σ h => G .nrm (σ 1) (σ 2) (σ 3) (σ 34) h) = W5 (g25_2 k G) 1 2 3 14 20 σ h := (kgroups_cons (fun σ h => g25_3_eq k σ h G)).trans (by kernel_rfl)
@[simp] def g25_1 (G : KT4 R) (v1 v2 v3 v14 : GV) (h : Heap) := bif tr false v14 then (kfa 1 v1).bind fun v15 => (kload1 h v15).bind fun v16 => (klen v16).bind fun v17 => (kbin .sub v3 (.int .i64 1)).bind fun v19 => (kbin .neq v17 v19).bind fun v20 => g25_2 k G v1 v2 v3 v14 v20 h else g25_2 k G v1 v2 v3 v14 .un h
theorem g25_1_eq (G : KT4 R) : kgroups PP cfg NN HH 97 o25 [(some (3, false), [4, 5, 6, 7, 8, 9]), (none, [10, 11]), (some (11, false), [12, 13, 14, 15, 16, 17]), (none, [18, 19]), (some (19, false), [20, 21, 22]), (none, [23])] σ h (fun σ h => G .nrm (σ 1) (σ 2) (σ 3) (σ 34) h) = W4 (g25_1 k G) 1 2 3 14 σ h := (kgroups_cons (fun σ h => g25_2_eq k σ h G)).trans (by kernel_rfl)
@[simp] def g25_0 (G : KT4 R) (v1 v2 v3 : GV) (h : Heap) := (kN NN fn.impl_in [v3, (.int .i64 1), (.int .i64 5)] h).bind fun v12 => (kun .not v12).bind fun v13 => g25_1 k G v1 v2 v3 v13 h
theorem g25_0_eq (G : KT4 R) : kgroups PP cfg NN HH 97 o25 [(none, [0, 1, 2, 3]), (some (3, false), [4, 5, 6, 7, 8, 9]), (none, [10, 11]), (some (11, false), [12, 13, 14, 15, 16, 17]), (none, [18, 19]), (some (19, false), [20, 21, 22]), (none, [23])] σ h (fun σ h => G .nrm (σ 1) (σ 2) (σ 3) (σ 34) h) = W3 (g25_0 k G) 1 2 3 σ h := (kgroups_cons (fun σ h => g25_1_eq k σ h G)).trans (by kernel_rfl)
@[simp] def n25 (G : KT4 R) (v1 v2 v3 : GV) (h : Heap) := g25_0 k G v1 v2 v3 h
theorem n25_eq (G : KT4 R) : KC k 97 c25 σ h (Q4 G 1 2 3 34) = W3 (n25 k G) 1 2 3 σ h := (kregion_eq (id := 2) (draw := false) (ops := o25) (gs := [(none, [0, 1, 2, 3]), (some (3, false), [4, 5, 6, 7, 8, 9]), (none, [10, 11]), (some (11, false), [12, 13, 14, 15, 16, 17]), (none, [18, 19]), (some (19, false), [20, 21, 22]), (none, [23])]) (by kernel_rfl) (by kernel_rfl) (by kernel_rfl)).trans (g25_0_eq k σ h G)
@[simp] def n23 (G : KT3 R) (v1 v2 v3 : GV) (h : Heap) := n25 k (fun x v1 v2 v3 v34 h => kx x (n24 k G v1 v2 v3 v34 h) (G x v1 v2 v3 h)) v1 v2 v3 h
theorem n23_eq (G : KT3 R) : KC k 97 c23 σ h (Q3 G 1 2 3) = W3 (n23 k G) 1 2 3 σ h := (kseq (b := c24) rfl (fun σ h => n24_eq k σ h G)).trans (n25_eq k σ h (fun x v1 v2 v3 v34 h => kx x (n24 k G v1 v2 v3 v34 h) (G x v1 v2 v3 h)))
@[simp] def n2 (G : KT1 R) (v1 v2 v3 : GV) (h : Heap) := n23 k (fun x v1 v2 v3 h => kx x (n3 k G v1 v2 v3 h) (G x v2 h)) v1 v2 v3 h
theorem n2_eq (G : KT1 R) : KC k 97 c2 σ h (Q1 G 2) = W3 (n2 k G) 1 2 3 σ h := (kseq (b := c3) rfl (fun σ h => n3_eq k σ h G)).trans (n23_eq k σ h (fun x v1 v2 v3 h => kx x (n3 k G v1 v2 v3 h) (G x v2 h)))
noncomputable def c26 := cL c1
@[simp] def n1 (G : KT1 R) (v1 v2 : GV) (h : Heap) := (kfa 0 v1).bind fun v8 => (kload1 h v8).bind fun v9 => (klen v9).bind fun v10 => n2 k G v1 v2 v10 h
theorem n1_eq (G : KT1 R) : KC k 97 c1 σ h (Q1 G 2) = W2 (n1 k G) 1 2 σ h := (kseq (a := c26) (b := c2) rfl (fun σ h => n2_eq k σ h G)).trans (by kernel_rfl)
noncomputable def c27 := cL c0
@[simp] def n0 (G : KT1 R) (v0 : GV) (h : Heap) := kbox v0 h fun v1 h => n1 k G v1 (.bool false) h
theorem n0_eq (G : KT1 R) : KC k 97 c0 σ h (Q1 G 2) = n0 k G (σ 0) h := (kseq (a := c27) (b := c1) rfl (fun σ h => n1_eq k σ h G)).trans (by kernel_rfl)
def run {R : Type} (k : Nat) (a0 : GV) (h : Heap) (fin : GV → Heap → Option R) : Option R := n0 k (fun x v2 h => kend x (fin v2 h)) a0 h
theorem gives {k : Nat} {a0 : GV} {v : GV} (e : run k a0 [] finN = some v) : NN fn.impl_ChainOk [a0] = some v := nω_of (by kernel_rfl) (((kfun_eq (nt := 97) (c := c0) (show PP.funcs[fn.impl_ChainOk]? = some Try.f42 by kernel_rfl) (by kernel_rfl) (by kernel_rfl) (fun x σ h => by cases x <;> kernel_rfl)).trans (n0_eq k _ [] _)).trans e)
end S.impl_ChainOk
namespace S.spec_l17Copy
noncomputable def c0 := bodyOf Try.f97
noncomputable def c1 := cR c0
noncomputable def c2 := cR c1
noncomputable def c3 := cR c2
noncomputable def c4 := cR c3
noncomputable def c5 := cR c4
@[simp] def n5 {R : Type} (k : Nat) (G : KT1 R) (v2 v3 : GV) (h : Heap) := (kloadA 3 h v3).bind fun v71 => (kstore 3 h v2 v71).bind fun h => G .ret v2 h
theorem n5_eq (G : KT1 R) : KC k 72 c5 σ h (Q1 G 2) = W2 (n5 k G) 2 3 σ h := by kernel_rfl
noncomputable def c6 := cL c4
noncomputable def c7 := cR c6
noncomputable def c8 := cL c7
noncomputable def c9 := cL c8
noncomputable def c10 := cR c9
noncomputable def c11 := cR c10
@[simp] def n11 {R : Type} (k : Nat) (G : KT4 R) (v1 v2 v3 v6 : GV) (h : Heap) := (kbin .add v6 (.int .i64 1)).bind fun v58 => G .nrm v1 v2 v3 v58 h
theorem n11_eq (G : KT4 R) : KC k 72 c11 σ h (Q4 G 1 2 3 6) = W4 (n11 k G) 1 2 3 6 σ h := by kernel_rfl
noncomputable def c12 := cL c10
noncomputable def c13 := cL c12
noncomputable def o13 : Array Oper := cO c13
@[simp] def g13_0 {R : Type} (k : Nat) (G : KT4 R) (v1 v2 v3 v6 : GV) (rs : List Rec) (h : Heap) := (kfa 2 v3).bind fun v59 => kold h fun h0 => (kload1 h v59).bind fun v60 => krs (rs ++ [⟨1, h0.length, h.length, ⟨kblk v59, []⟩⟩]) fun rs => kold h fun h0 => krs (rs ++ [⟨2, h0.length, h.length, ⟨[], []⟩⟩]) fun rs => (kfa 2 v1).bind fun v62 => kold h fun h0 => (kload1 h v62).bind fun v63 => krs (rs ++ [⟨4, h0.length, h.length, ⟨kblk v62, []⟩⟩]) fun rs => (kia 1 v63 v6).bind fun v65 => kold h fun h0 => (kload1 h v65).bind fun v66 => krs (rs ++ [⟨7, h0.length, h.length, ⟨kblk v65, []⟩⟩]) fun rs => kold h fun h0 => (kapp [(.int .i64 0)] 1 8 .emp v66 h).bind fun r => kr r fun v67 h => krs (rs ++ [⟨8, h0.length, h.length, ⟨kblk .emp ++ kblk v66, kblk .emp⟩⟩]) fun rs => (gfill (fun i => some (i * 1, 1)) (zeros [.nils] 1) [(0, v67)]).bind fun c => kbs 1 1 c h fun v68 h => (kapp [.nils] 1 24 v60 v68 h).bind fun r => kr r fun v69 h => (kfa 2 v3).bind fun v70 => (kstore 1 h v70 v69).bind fun h => bif chk [(1, 8), (2, 4), (2, 7)] rs then G .nrm v1 v2 v3 v6 h else none
theorem g13_0_eq (G : KT4 R) (rs : List Rec) (σ : GS) (h : Heap) : kgroupsD PP cfg NN HH 72 o13 [(1, 8), (2, 4), (2, 7)] [(none, [0, 1, 2, 3, 4, 5, 6, 7, 8, 9, 10, 11, 12])] rs σ h (fun rs σ h => bif chk [(1, 8), (2, 4), (2, 7)] rs then G .nrm (σ 1) (σ 2) (σ 3) (σ 6) h else none) = g13_0 k G (σ 1) (σ 2) (σ 3) (σ 6) rs h := by kernel_rfl
@[simp] def n13 (G : KT4 R) (v1 v2 v3 v6 : GV) (h : Heap) := g13_0 k G v1 v2 v3 v6 [] h
theorem n13_eq (G : KT4 R) : KC k 72 c13 σ h (Q4 G 1 2 3 6) = W4 (n13 k G) 1 2 3 6 σ h := (kregionD_eq (id := 13) (draw := true) (ops := o13) (gs := [(none, [0, 1, 2, 3, 4, 5, 6, 7, 8, 9, 10, 11, 12])]) (bad := [(1, 8), (2, 4), (2, 7)]) (by kernel_rfl) (by kernel_rfl) (by kernel_rfl) (by kernel_rfl) (by kernel_rfl)).trans (g13_0_eq k G [] σ h)
@[simp] def n12 (G : KT4 R) (v1 v2 v3 v6 : GV) (h : Heap) := n13 k (fun x v1 v2 v3 v6 h => kb 5 x fun x => G x v1 v2 v3 v6 h) v1 v2 v3 v6 h
theorem n12_eq (G : KT4 R) : KC k 72 c12 σ h (Q4 G 1 2 3 6) = W4 (n12 k G) 1 2 3 6 σ h := (kblock_eq (a := c13) rfl).trans (n13_eq k σ h (fun x v1 v2 v3 v6 h => kb 5 x fun x => G x v1 v2 v3 v6 h))
@[simp] def n10 (G : KT4 R) (v1 v2 v3 v6 : GV) (h : Heap) := n12 k (fun x v1 v2 v3 v6 h => kx x (n11 k G v1 v2 v3 v6 h) (G x v1 v2 v3 v6 h)) v1 v2 v3 v6 h
theorem n10_eq (G : KT4 R) : KC k 72 c10 σ h (Q4 G 1 2 3 6) = W4 (n10 k G) 1 2 3 6 σ h := (kseq (b := c11) rfl (fun σ h => n11_eq k σ h G)).trans (n12_eq k σ h (fun x v1 v2 v3 v6 h => kx x (n11 k G v1 v2 v3 v6 h) (G x v1 v2 v3 v6 h)))
noncomputable def c14 := cL c9
@[simp] def n9 (G : KT4 R) (v1 v2 v3 v6 : GV) (h : Heap) := (kfa 2 v1).bind fun v53 => (kload1 h v53).bind fun v54 => (klen v54).bind fun v55 => (kbin .lss v6 v55).bind fun v56 => kcond v56 (n10 k G v1 v2 v3 v6 h) (G (.ext 4) v1 v2 v3 v6 h)
theorem n9_eq (G : KT4 R) : KC k 72 c9 σ h (Q4 G 1 2 3 6) = W4 (n9 k G) 1 2 3 6 σ h := (kseq (a := c14) (b := c10) rfl (fun σ h => n10_eq k σ h G)).trans (by kernel_rfl)
def l8 {R : Type} (k : Nat) (G : KT2 R) : Nat → GV → GV → GV → GV → Heap → Option R
  | 0, _, _, _, _, _ => none
  | r + 1, v1, v2, v3, v6, h => n9 k (fun x v1 v2 v3 v6 h => kx x (l8 k G r v1 v2 v3 v6 h) (G x v2 v3 h)) v1 v2 v3 v6 h
theorem l8_eq {R : Type} (k : Nat) (G : KT2 R) : ∀ (r : Nat) (σ : GS) (h : Heap), kloop (fun σ h K => KC k 72 c9 σ h K) r σ h (Q2 G 2 3) = l8 k G r (σ 1) (σ 2) (σ 3) (σ 6) h
  | 0, _, _ => rfl
  | r + 1, σ, h => (kloop_eq (fun σ h => l8_eq k G r σ h)).trans (n9_eq k σ h (fun x v1 v2 v3 v6 h => kx x (l8 k G r v1 v2 v3 v6 h) (G x v2 v3 h)))
@[simp] def n8 (G : KT2 R) (v1 v2 v3 v6 : GV) (h : Heap) := l8 k G k v1 v2 v3 v6 h
theorem n8_eq (G : KT2 R) : KC k 72 c8 σ h (Q2 G 2 3) = W4 (n8 k G) 1 2 3 6 σ h := (kloopc_eq (a := c9) rfl).trans (l8_eq k G k σ h)
@[simp] def n7 (G : KT2 R) (v1 v2 v3 v6 : GV) (h : Heap) := n8 k (fun x v2 v3 h => kb 4 x fun x => G x v2 v3 h) v1 v2 v3 v6 h
theorem n7_eq (G : KT2 R) : KC k 72 c7 σ h (Q2 G 2 3) = W4 (n7 k G) 1 2 3 6 σ h := (kblock_eq (a := c8) rfl).trans (n8_eq k σ h (fun x v2 v3 h => kb 4 x fun x => G x v2 v3 h))
noncomputable def c15 := cL c6
@[simp] def n6 (G : KT2 R) (v1 v2 v3 : GV) (h : Heap) := n7 k G v1 v2 v3 (.int .i64 0) h
theorem n6_eq (G : KT2 R) : KC k 72 c6 σ h (Q2 G 2 3) = W3 (n6 k G) 1 2 3 σ h := (kseq (a := c15) (b := c7) rfl (fun σ h => n7_eq k σ h G)).trans (by kernel_rfl)
@[simp] def n4 (G : KT1 R) (v1 v2 v3 : GV) (h : Heap) := n6 k (fun x v2 v3 h => kx x (n5 k G v2 v3 h) (G x v2 h)) v1 v2 v3 h
theorem n4_eq (G : KT1 R) : KC k 72 c4 σ h (Q1 G 2) = W3 (n4 k G) 1 2 3 σ h := (kseq (b := c5) rfl (fun σ h => n5_eq k σ h G)).trans (n6_eq k σ h (fun x v2 v3 h => kx x (n5 k G v2 v3 h) (G x v2 h)))
noncomputable def c16 := cL c3
noncomputable def c17 := cR c16
noncomputable def c18 := cL c17
noncomputable def c19 := cL c18
noncomputable def c20 := cR c19
noncomputable def c21 := cR c20
@[simp] def n21 {R : Type} (k : Nat) (G : KT4 R) (v1 v2 v3 v5 : GV) (h : Heap) := (kbin .add v5 (.int .i64 1)).bind fun v40 => G .nrm v1 v2 v3 v40 h
theorem n21_eq (G : KT4 R) : KC k 72 c21 σ h (Q4 G 1 2 3 5) = W4 (n21 k G) 1 2 3 5 σ h := by kernel_rfl
noncomputable def c22 := cL c20
noncomputable def c23 := cL c22
@[simp] def n23 {R : Type} (k : Nat) (G : KT4 R) (v1 v2 v3 v5 : GV) (h : Heap) := (kfa 1 v3).bind fun v41 => (kload1 h v41).bind fun v42 => (kfa 1 v1).bind fun v43 => (kload1 h v43).bind fun v44 => (kia 1 v44 v5).bind fun v46 => (kload1 h v46).bind fun v47 => (kF false HH fn.spec_l17Texts [v47] h).bind fun r => kr r fun v48 h => (gfill (fun i => some (i * 1, 1)) (zeros [.nils] 1) [(0, v48)]).bind fun c => kbs 1 1 c h fun v49 h => (kapp [.nils] 1 24 v42 v49 h).bind fun r => kr r fun v50 h => (kfa 1 v3).bind fun v51 => (kstore 1 h v51 v50).bind fun h => G .nrm v1 v2 v3 v5 h
theorem n23_eq (G : KT4 R) : KC k 72 c23 σ h (Q4 G 1 2 3 5) = W4 (n23 k G) 1 2 3 5 σ h := by kernel_rfl
@[simp] def n22 (G : KT4 R) (v1 v2 v3 v5 : GV) (h : Heap) := n23 k (fun x v1 v2 v3 v5 h => kb 3 x fun x => G x v1 v2 v3 v5 h) v1 v2 v3 v5 h
theorem n22_eq (G : KT4 R) : KC k 72 c22 σ h (Q4 G 1 2 3 5) = W4 (n22 k G) 1 2 3 5 σ h := (kblock_eq (a := c23) rfl).trans (n23_eq k σ h (fun x v1 v2 v3 v5 h => kb 3 x fun x => G x v1 v2 v3 v5 h))
@[simp] def n20 (G : KT4 R) (v1 v2 v3 v5 : GV) (h : Heap) := n22 k (fun x v1 v2 v3 v5 h => kx x (n21 k G v1 v2 v3 v5 h) (G x v1 v2 v3 v5 h)) v1 v2 v3 v5 h
theorem n20_eq (G : KT4 R) : KC k 72 c20 σ h (Q4 G 1 2 3 5) = W4 (n20 k G) 1 2 3 5 σ h := (kseq (b := c21) rfl (fun σ h => n21_eq k σ h G)).trans (n22_eq k σ h (fun x v1 v2 v3 v5 h => kx x (n21 k G v1 v2 v3 v5 h) (G x v1 v2 v3 v5 h)))
noncomputable def c24 := cL c19
@[simp] def n19 (G : KT4 R) (v1 v2 v3 v5 : GV) (h : Heap) := (kfa 1 v1).bind fun v35 => (kload1 h v35).bind fun v36 => (klen v36).bind fun v37 => (kbin .lss v5 v37).bind fun v38 => kcond v38 (n20 k G v1 v2 v3 v5 h) (G (.ext 2) v1 v2 v3 v5 h)
theorem n19_eq (G : KT4 R) : KC k 72 c19 σ h (Q4 G 1 2 3 5) = W4 (n19 k G) 1 2 3 5 σ h := (kseq (a := c24) (b := c20) rfl (fun σ h => n20_eq k σ h G)).trans (by kernel_rfl)
def l18 {R : Type} (k : Nat) (G : KT3 R) : Nat → GV → GV → GV → GV → Heap → Option R
  | 0, _, _, _, _, _ => none
  | r + 1, v1, v2, v3, v5, h => n19 k (fun x v1 v2 v3 v5 h => kx x (l18 k G r v1 v2 v3 v5 h) (G x v1 v2 v3 h)) v1 v2 v3 v5 h
theorem l18_eq {R : Type} (k : Nat) (G : KT3 R) : ∀ (r : Nat) (σ : GS) (h : Heap), kloop (fun σ h K => KC k 72 c19 σ h K) r σ h (Q3 G 1 2 3) = l18 k G r (σ 1) (σ 2) (σ 3) (σ 5) h
  | 0, _, _ => rfl
  | r + 1, σ, h => (kloop_eq (fun σ h => l18_eq k G r σ h)).trans (n19_eq k σ h (fun x v1 v2 v3 v5 h => kx x (l18 k G r v1 v2 v3 v5 h) (G x v1 v2 v3 h)))
@[simp] def n18 (G : KT3 R) (v1 v2 v3 v5 : GV) (h : Heap) := l18 k G k v1 v2 v3 v5 h
theorem n18_eq (G : KT3 R) : KC k 72 c18 σ h (Q3 G 1 2 3) = W4 (n18 k G) 1 2 3 5 σ h := (kloopc_eq (a := c19) rfl).trans (l18_eq k G k σ h)
@[simp] def n17 (G : KT3 R) (v1 v2 v3 v5 : GV) (h : Heap) := n18 k (fun x v1 v2 v3 h => kb 2 x fun x => G x v1 v2 v3 h) v1 v2 v3 v5 h
theorem n17_eq (G : KT3 R) : KC k 72 c17 σ h (Q3 G 1 2 3) = W4 (n17 k G) 1 2 3 5 σ h := (kblock_eq (a := c18) rfl).trans (n18_eq k σ h (fun x v1 v2 v3 h => kb 2 x fun x => G x v1 v2 v3 h))
noncomputable def c25 := cL c16
@[simp] def n16 (G : KT3 R) (v1 v2 v3 : GV) (h : Heap) := n17 k G v1 v2 v3 (.int .i64 0) h
theorem n16_eq (G : KT3 R) : KC k 72 c16 σ h (Q3 G 1 2 3) = W3 (n16 k G) 1 2 3 σ h := (kseq (a := c25) (b := c17) rfl (fun σ h => n17_eq k σ h G)).trans (by kernel_rfl)
@[simp] def n3 (G : KT1 R) (v1 v2 v3 : GV) (h : Heap) := n16 k (fun x v1 v2 v3 h => kx x (n4 k G v1 v2 v3 h) (G x v2 h)) v1 v2 v3 h
theorem n3_eq (G : KT1 R) : KC k 72 c3 σ h (Q1 G 2) = W3 (n3 k G) 1 2 3 σ h := (kseq (b := c4) rfl (fun σ h => n4_eq k σ h G)).trans (n16_eq k σ h (fun x v1 v2 v3 h => kx x (n4 k G v1 v2 v3 h) (G x v2 h)))
noncomputable def c26 := cL c2
noncomputable def c27 := cR c26
noncomputable def c28 := cL c27
noncomputable def c29 := cL c28
noncomputable def c30 := cR c29
noncomputable def c31 := cR c30
@[simp] def n31 {R : Type} (k : Nat) (G : KT4 R) (v1 v2 v3 v4 : GV) (h : Heap) := (kbin .add v4 (.int .i64 1)).bind fun v14 => G .nrm v1 v2 v3 v14 h
theorem n31_eq (G : KT4 R) : KC k 72 c31 σ h (Q4 G 1 2 3 4) = W4 (n31 k G) 1 2 3 4 σ h := by kernel_rfl
noncomputable def c32 := cL c30
noncomputable def c33 := cL c32
noncomputable def o33 : Array Oper := cO c33
@[simp] def g33_0 {R : Type} (k : Nat) (G : KT4 R) (v1 v2 v3 v4 : GV) (rs : List Rec) (h : Heap) := (kfa 0 v3).bind fun v15 => (kload1 h v15).bind fun v16 => (kfa 0 v1).bind fun v17 => (kload1 h v17).bind fun v18 => (kia 2 v18 v4).bind fun v20 => (kfa 0 v20).bind fun v21 => (kload1 h v21).bind fun v22 => kold h fun h0 => (kF false HH fn.spec_l17Texts [v22] h).bind fun r => kr r fun v23 h => krs (rs ++ [⟨8, h0.length, h.length, ⟨[v22].flatMap (kborr h0), []⟩⟩]) fun rs => (kfa 0 v1).bind fun v24 => kold h fun h0 => (kload1 h v24).bind fun v25 => krs (rs ++ [⟨10, h0.length, h.length, ⟨kblk v24, []⟩⟩]) fun rs => (kia 2 v25 v4).bind fun v27 => (kfa 1 v27).bind fun v28 => kold h fun h0 => (kload1 h v28).bind fun v29 => krs (rs ++ [⟨14, h0.length, h.length, ⟨kblk v28, []⟩⟩]) fun rs => (gfill (fun i => [(0, 1), (1, 1)][i]?) [.nils, (.int .i64 0)] [(0, v23), (1, v29)]).bind fun c => kagg c h fun v30 h => (gfill (fun i => some (i * 2, 2)) (zeros [.nils, (.int .i64 0)] 1) [(0, v30)]).bind fun c => kbs 1 2 c h fun v31 h => (kapp [.nils, (.int .i64 0)] 2 32 v16 v31 h).bind fun r => kr r fun v32 h => (kfa 0 v3).bind fun v33 => (kstore 1 h v33 v32).bind fun h => bif chk [(8, 10), (8, 14)] rs then G .nrm v1 v2 v3 v4 h else none
theorem g33_0_eq (G : KT4 R) (rs : List Rec) (σ : GS) (h : Heap) : kgroupsD PP cfg NN HH 72 o33 [(8, 10), (8, 14)] [(none, [0, 1, 2, 3, 4, 5, 6, 7, 8, 9, 10, 11, 12, 13, 14, 15, 16, 17, 18, 19])] rs σ h (fun rs σ h => bif chk [(8, 10), (8, 14)] rs then G .nrm (σ 1) (σ 2) (σ 3) (σ 4) h else none) = g33_0 k G (σ 1) (σ 2) (σ 3) (σ 4) rs h := by kernel_rfl
@[simp] def n33 (G : KT4 R) (v1 v2 v3 v4 : GV) (h : Heap) := g33_0 k G v1 v2 v3 v4 [] h
theorem n33_eq (G : KT4 R) : KC k 72 c33 σ h (Q4 G 1 2 3 4) = W4 (n33 k G) 1 2 3 4 σ h := (kregionD_eq (id := 5) (draw := true) (ops := o33) (gs := [(none, [0, 1, 2, 3, 4, 5, 6, 7, 8, 9, 10, 11, 12, 13, 14, 15, 16, 17, 18, 19])]) (bad := [(8, 10), (8, 14)]) (by kernel_rfl) (by kernel_rfl) (by kernel_rfl) (by kernel_rfl) (by kernel_rfl)).trans (g33_0_eq k G [] σ h)
@[simp] def n32 (G : KT4 R) (v1 v2 v3 v4 : GV) (h : Heap) := n33 k (fun x v1 v2 v3 v4 h => kb 1 x fun x => G x v1 v2 v3 v4 h) v1 v2 v3 v4 h
theorem n32_eq (G : KT4 R) : KC k 72 c32 σ h (Q4 G 1 2 3 4) = W4 (n32 k G) 1 2 3 4 σ h := (kblock_eq (a := c33) rfl).trans (n33_eq k σ h (fun x v1 v2 v3 v4 h => kb 1 x fun x => G x v1 v2 v3 v4 h))
@[simp] def n30 (G : KT4 R) (v1 v2 v3 v4 : GV) (h : Heap) := n32 k (fun x v1 v2 v3 v4 h => kx x (n31 k G v1 v2 v3 v4 h) (G x v1 v2 v3 v4 h)) v1 v2 v3 v4 h
theorem n30_eq (G : KT4 R) : KC k 72 c30 σ h (Q4 G 1 2 3 4) = W4 (n30 k G) 1 2 3 4 σ h := (kseq (b := c31) rfl (fun σ h => n31_eq k σ h G)).trans (n32_eq k σ h (fun x v1 v2 v3 v4 h => kx x (n31 k G v1 v2 v3 v4 h) (G x v1 v2 v3 v4 h)))
noncomputable def c34 := cL c29
@[simp] def n29 (G : KT4 R) (v1 v2 v3 v4 : GV) (h : Heap) := (kfa 0 v1).bind fun v9 => (kload1 h v9).bind fun v10 => (klen v10).bind fun v11 => (kbin .lss v4 v11).bind fun v12 => kcond v12 (n30 k G v1 v2 v3 v4 h) (G (.ext 0) v1 v2 v3 v4 h)
theorem n29_eq (G : KT4 R) : KC k 72 c29 σ h (Q4 G 1 2 3 4) = W4 (n29 k G) 1 2 3 4 σ h := (kseq (a := c34) (b := c30) rfl (fun σ h => n30_eq k σ h G)).trans (by kernel_rfl)
def l28 {R : Type} (k : Nat) (G : KT3 R) : Nat → GV → GV → GV → GV → Heap → Option R
  | 0, _, _, _, _, _ => none
  | r + 1, v1, v2, v3, v4, h => n29 k (fun x v1 v2 v3 v4 h => kx x (l28 k G r v1 v2 v3 v4 h) (G x v1 v2 v3 h)) v1 v2 v3 v4 h
theorem l28_eq {R : Type} (k : Nat) (G : KT3 R) : ∀ (r : Nat) (σ : GS) (h : Heap), kloop (fun σ h K => KC k 72 c29 σ h K) r σ h (Q3 G 1 2 3) = l28 k G r (σ 1) (σ 2) (σ 3) (σ 4) h
  | 0, _, _ => rfl
  | r + 1, σ, h => (kloop_eq (fun σ h => l28_eq k G r σ h)).trans (n29_eq k σ h (fun x v1 v2 v3 v4 h => kx x (l28 k G r v1 v2 v3 v4 h) (G x v1 v2 v3 h)))
@[simp] def n28 (G : KT3 R) (v1 v2 v3 v4 : GV) (h : Heap) := l28 k G k v1 v2 v3 v4 h
theorem n28_eq (G : KT3 R) : KC k 72 c28 σ h (Q3 G 1 2 3) = W4 (n28 k G) 1 2 3 4 σ h := (kloopc_eq (a := c29) rfl).trans (l28_eq k G k σ h)
@[simp] def n27 (G : KT3 R) (v1 v2 v3 v4 : GV) (h : Heap) := n28 k (fun x v1 v2 v3 h => kb 0 x fun x => G x v1 v2 v3 h) v1 v2 v3 v4 h
theorem n27_eq (G : KT3 R) : KC k 72 c27 σ h (Q3 G 1 2 3) = W4 (n27 k G) 1 2 3 4 σ h := (kblock_eq (a := c28) rfl).trans (n28_eq k σ h (fun x v1 v2 v3 h => kb 0 x fun x => G x v1 v2 v3 h))
noncomputable def c35 := cL c26
@[simp] def n26 (G : KT3 R) (v1 v2 v3 : GV) (h : Heap) := n27 k G v1 v2 v3 (.int .i64 0) h
theorem n26_eq (G : KT3 R) : KC k 72 c26 σ h (Q3 G 1 2 3) = W3 (n26 k G) 1 2 3 σ h := (kseq (a := c35) (b := c27) rfl (fun σ h => n27_eq k σ h G)).trans (by kernel_rfl)
@[simp] def n2 (G : KT1 R) (v1 v2 v3 : GV) (h : Heap) := n26 k (fun x v1 v2 v3 h => kx x (n3 k G v1 v2 v3 h) (G x v2 h)) v1 v2 v3 h
theorem n2_eq (G : KT1 R) : KC k 72 c2 σ h (Q1 G 2) = W3 (n2 k G) 1 2 3 σ h := (kseq (b := c3) rfl (fun σ h => n3_eq k σ h G)).trans (n26_eq k σ h (fun x v1 v2 v3 h => kx x (n3 k G v1 v2 v3 h) (G x v2 h)))
noncomputable def c36 := cL c1
@[simp] def n1 (G : KT1 R) (v1 v2 : GV) (h : Heap) := (gfill (fun i => [(0, 1), (1, 1), (2, 1)][i]?) [.nils, .nils, .nils] []).bind fun c => kagg c h fun v7 h => kalloc [.nils, .nils, .nils] h fun v3 h => (kstore 3 h v3 v7).bind fun h => n2 k G v1 v2 v3 h
theorem n1_eq (G : KT1 R) : KC k 72 c1 σ h (Q1 G 2) = W2 (n1 k G) 1 2 σ h := (kseq (a := c36) (b := c2) rfl (fun σ h => n2_eq k σ h G)).trans (by kernel_rfl)
noncomputable def c37 := cL c0
@[simp] def n0 (G : KT1 R) (v0 : GV) (h : Heap) := kbox v0 h fun v1 h => kalloc [.nils, .nils, .nils] h fun v2 h => n1 k G v1 v2 h
theorem n0_eq (G : KT1 R) : KC k 72 c0 σ h (Q1 G 2) = n0 k G (σ 0) h := (kseq (a := c37) (b := c1) rfl (fun σ h => n1_eq k σ h G)).trans (by kernel_rfl)
def run {R : Type} (k : Nat) (a0 : GV) (h : Heap) (fin : GV → Heap → Option R) : Option R := n0 k (fun x v2 h => kend x ((kloadA 3 h v2).bind fun w2 => fin w2 h)) a0 h
theorem gives {k : Nat} {a0 : GV} {b : Nat} {q : GV × List (List GV)} (e : run k a0 [] (finO b) = some q) : OO fn.spec_l17Copy [a0] b = some q := oω_of (((kfun_eq (nt := 72) (c := c0) (show PP.funcs[fn.spec_l17Copy]? = some Try.f97 by kernel_rfl) (by kernel_rfl) (by kernel_rfl) (fun x σ h => by cases x <;> kernel_rfl)).trans (n0_eq k _ [] _)).trans e)
end S.spec_l17Copy
namespace S.impl_changed
noncomputable def c0 := bodyOf Try.f102
@[simp] def n0 {R : Type} (k : Nat) (G : KT2 R) (v0 v1 : GV) (h : Heap) := kbox v0 h fun v2 h => kalloc [.nils, .nils, .nils] h fun v4 h => (kloadA 3 h v2).bind fun v7 => (kN NN fn.impl_ChainOk [v7] h).bind fun v8 => (kun .not v8).bind fun v9 => kcond v9 ((gfill (fun i => [(0, 1), (1, 1), (2, 1)][i]?) [.nils, .nils, .nils] []).bind fun c => kagg c h fun v10 h => (kstore 3 h v4 v10).bind fun h => G .ret v4 (.bool false) h) ((kloadA 3 h v2).bind fun v11 => (kF false HH fn.impl_Chain_copied [v11] h).bind fun r => kr r fun v12 h => kalloc [.nils, .nils, .nils] h fun v6 h => (kstore 3 h v6 v12).bind fun h => kval v1 [v6] h fun v14 h => (kun .not v14).bind fun v15 => kcond v15 ((kloadA 3 h v2).bind fun v16 => (kF false HH fn.impl_Chain_copied [v16] h).bind fun r => kr r fun v17 h => (kstore 3 h v4 v17).bind fun h => G .ret v4 (.bool false) h) ((kloadA 3 h v6).bind fun v18 => (kstore 3 h v4 v18).bind fun h => G .ret v4 (.bool true) h))
theorem n0_eq (G : KT2 R) : KC k 19 c0 σ h (Q2 G 4 5) = W2 (n0 k G) 0 1 σ h := by kernel_rfl
def run {R : Type} (k : Nat) (a0 a1 : GV) (h : Heap) (fin : GV → Heap → Option R) : Option R := n0 k (fun x v4 v5 h => kend x ((kloadA 3 h v4).bind fun w4 => fin (.tup [w4, v5]) h)) a0 a1 h
theorem gives {k : Nat} {a0 a1 : GV} {b : Nat} {q : GV × List (List GV)} (e : run k a0 a1 [] (finO b) = some q) : OO fn.impl_changed [a0, a1] b = some q := oω_of (((kfun_eq (nt := 19) (c := c0) (show PP.funcs[fn.impl_changed]? = some Try.f102 by kernel_rfl) (by kernel_rfl) (by kernel_rfl) (fun x σ h => by cases x <;> kernel_rfl)).trans (n0_eq k _ [] _)).trans e)
end S.impl_changed
namespace S.impl_Chain_last
noncomputable def c0 := bodyOf Try.f104
@[simp] def n0 {R : Type} (k : Nat) (G : KT1 R) (v0 : GV) (h : Heap) := kbox v0 h fun v1 h => (kfa 0 v1).bind fun v3 => (kload1 h v3).bind fun v4 => (klen v4).bind fun v5 => (kbin .sub v5 (.int .i64 1)).bind fun v6 => G .ret v6 h
theorem n0_eq (G : KT1 R) : KC k 7 c0 σ h (Q1 G 2) = n0 k G (σ 0) h := by kernel_rfl
def run {R : Type} (k : Nat) (a0 : GV) (h : Heap) (fin : GV → Heap → Option R) : Option R := n0 k (fun x v2 h => kend x (fin v2 h)) a0 h
theorem gives {k : Nat} {a0 : GV} {v : GV} (e : run k a0 [] finN = some v) : NN fn.impl_Chain_last [a0] = some v := nω_of (by kernel_rfl) (((kfun_eq (nt := 7) (c := c0) (show PP.funcs[fn.impl_Chain_last]? = some Try.f104 by kernel_rfl) (by kernel_rfl) (by kernel_rfl) (fun x σ h => by cases x <;> kernel_rfl)).trans (n0_eq k _ [] _)).trans e)
end S.impl_Chain_last
namespace S.slices_Clone_string
noncomputable def c0 := bodyOf Try.f117
@[simp] def n0 {R : Type} (k : Nat) (G : KT1 R) (v0 : GV) (h : Heap) := (gbinop PP .eql 41 (.tmp 3) (.const (.slice none 0 0)) v0 .nils).bind fun v4 => kcond v4 (G .ret .nils h) ((kapp [(.str { data := #[] })] 1 16 .emp v0 h).bind fun r => kr r fun v7 h => G .ret v7 h)
theorem n0_eq (G : KT1 R) : KC k 8 c0 σ h (Q1 G 2) = n0 k G (σ 0) h := by kernel_rfl
def run {R : Type} (k : Nat) (a0 : GV) (h : Heap) (fin : GV → Heap → Option R) : Option R := n0 k (fun x v2 h => kend x (fin v2 h)) a0 h
theorem run_eq {R : Type} (k : Nat) (a0 : GV) (h : Heap) (fin : GV → Heap → Option R) : kfun PP cfg NN HH k fn.slices_Clone_string [a0] h fin = run k a0 h fin := (kfun_eq (nt := 8) (c := c0) (show PP.funcs[fn.slices_Clone_string]? = some Try.f117 by kernel_rfl) (by kernel_rfl) (by kernel_rfl) (fun x σ h => by cases x <;> kernel_rfl)).trans (n0_eq k _ h (fun x v2 h => kend x (fin v2 h)))
theorem gives {k : Nat} {a0 : GV} {b : Nat} {q : GV × List (List GV)} (e : run k a0 [] (finO b) = some q) : OO fn.slices_Clone_string [a0] b = some q := oω_of ((run_eq k a0 [] (finO b)).trans e)
end S.slices_Clone_string
namespace S.spec_l17Same
noncomputable def c0 := bodyOf Try.f120
noncomputable def c1 := cR c0
noncomputable def c2 := cR c1
noncomputable def c3 := cR c2
@[simp] def n3 {R : Type} (k : Nat) (G : KT1 R) (h : Heap) := G .ret (.bool true) h
theorem n3_eq (G : KT1 R) : KC k 26 c3 σ h (Q1 G 4) = n3 k G h := by kernel_rfl
noncomputable def c4 := cL c2
noncomputable def c5 := cR c4
noncomputable def c6 := cL c5
noncomputable def c7 := cL c6
noncomputable def c8 := cR c7
noncomputable def c9 := cR c8
@[simp] def n9 {R : Type} (k : Nat) (G : KT4 R) (v0 v1 v4 v5 : GV) (h : Heap) := (kbin .add v5 (.int .i64 1)).bind fun v16 => G .nrm v0 v1 v4 v16 h
theorem n9_eq (G : KT4 R) : KC k 26 c9 σ h (Q4 G 0 1 4 5) = W4 (n9 k G) 0 1 4 5 σ h := by kernel_rfl
noncomputable def c10 := cL c8
noncomputable def c11 := cL c10
@[simp] def n11 {R : Type} (k : Nat) (G : KT4 R) (v0 v1 v4 v5 : GV) (h : Heap) := (kia 1 v0 v5).bind fun v19 => (kload1 h v19).bind fun v20 => (kia 1 v1 v5).bind fun v23 => (kload1 h v23).bind fun v24 => (kbin .neq v20 v24).bind fun v25 => kcond v25 (G .ret v0 v1 (.bool false) v5 h) (G .nrm v0 v1 v4 v5 h)
theorem n11_eq (G : KT4 R) : KC k 26 c11 σ h (Q4 G 0 1 4 5) = W4 (n11 k G) 0 1 4 5 σ h := by kernel_rfl
@[simp] def n10 (G : KT4 R) (v0 v1 v4 v5 : GV) (h : Heap) := n11 k (fun x v0 v1 v4 v5 h => kb 1 x fun x => G x v0 v1 v4 v5 h) v0 v1 v4 v5 h
theorem n10_eq (G : KT4 R) : KC k 26 c10 σ h (Q4 G 0 1 4 5) = W4 (n10 k G) 0 1 4 5 σ h := (kblock_eq (a := c11) rfl).trans (n11_eq k σ h (fun x v0 v1 v4 v5 h => kb 1 x fun x => G x v0 v1 v4 v5 h))
@[simp] def n8 (G : KT4 R) (v0 v1 v4 v5 : GV) (h : Heap) := n10 k (fun x v0 v1 v4 v5 h => kx x (n9 k G v0 v1 v4 v5 h) (G x v0 v1 v4 v5 h)) v0 v1 v4 v5 h
theorem n8_eq (G : KT4 R) : KC k 26 c8 σ h (Q4 G 0 1 4 5) = W4 (n8 k G) 0 1 4 5 σ h := (kseq (b := c9) rfl (fun σ h => n9_eq k σ h G)).trans (n10_eq k σ h (fun x v0 v1 v4 v5 h => kx x (n9 k G v0 v1 v4 v5 h) (G x v0 v1 v4 v5 h)))
noncomputable def c12 := cL c7
@[simp] def n7 (G : KT4 R) (v0 v1 v4 v5 : GV) (h : Heap) := (klen v0).bind fun v13 => (kbin .lss v5 v13).bind fun v14 => kcond v14 (n8 k G v0 v1 v4 v5 h) (G (.ext 0) v0 v1 v4 v5 h)
theorem n7_eq (G : KT4 R) : KC k 26 c7 σ h (Q4 G 0 1 4 5) = W4 (n7 k G) 0 1 4 5 σ h := (kseq (a := c12) (b := c8) rfl (fun σ h => n8_eq k σ h G)).trans (by kernel_rfl)
def l6 {R : Type} (k : Nat) (G : KT1 R) : Nat → GV → GV → GV → GV → Heap → Option R
  | 0, _, _, _, _, _ => none
  | r + 1, v0, v1, v4, v5, h => n7 k (fun x v0 v1 v4 v5 h => kx x (l6 k G r v0 v1 v4 v5 h) (G x v4 h)) v0 v1 v4 v5 h
theorem l6_eq {R : Type} (k : Nat) (G : KT1 R) : ∀ (r : Nat) (σ : GS) (h : Heap), kloop (fun σ h K => KC k 26 c7 σ h K) r σ h (Q1 G 4) = l6 k G r (σ 0) (σ 1) (σ 4) (σ 5) h
  | 0, _, _ => rfl
  | r + 1, σ, h => (kloop_eq (fun σ h => l6_eq k G r σ h)).trans (n7_eq k σ h (fun x v0 v1 v4 v5 h => kx x (l6 k G r v0 v1 v4 v5 h) (G x v4 h)))
@[simp] def n6 (G : KT1 R) (v0 v1 v4 v5 : GV) (h : Heap) := l6 k G k v0 v1 v4 v5 h
theorem n6_eq (G : KT1 R) : KC k 26 c6 σ h (Q1 G 4) = W4 (n6 k G) 0 1 4 5 σ h := (kloopc_eq (a := c7) rfl).trans (l6_eq k G k σ h)
@[simp] def n5 (G : KT1 R) (v0 v1 v4 v5 : GV) (h : Heap) := n6 k (fun x v4 h => kb 0 x fun x => G x v4 h) v0 v1 v4 v5 h
theorem n5_eq (G : KT1 R) : KC k 26 c5 σ h (Q1 G 4) = W4 (n5 k G) 0 1 4 5 σ h := (kblock_eq (a := c6) rfl).trans (n6_eq k σ h (fun x v4 h => kb 0 x fun x => G x v4 h))
noncomputable def c13 := cL c4
@[simp] def n4 (G : KT1 R) (v0 v1 v4 : GV) (h : Heap) := n5 k G v0 v1 v4 (.int .i64 0) h
theorem n4_eq (G : KT1 R) : KC k 26 c4 σ h (Q1 G 4) = W3 (n4 k G) 0 1 4 σ h := (kseq (a := c13) (b := c5) rfl (fun σ h => n5_eq k σ h G)).trans (by kernel_rfl)
@[simp] def n2 (G : KT1 R) (v0 v1 v4 : GV) (h : Heap) := n4 k (fun x v4 h => kx x (n3 k G h) (G x v4 h)) v0 v1 v4 h
theorem n2_eq (G : KT1 R) : KC k 26 c2 σ h (Q1 G 4) = W3 (n2 k G) 0 1 4 σ h := (kseq (b := c3) rfl (fun σ h => n3_eq k σ h G)).trans (n4_eq k σ h (fun x v4 h => kx x (n3 k G h) (G x v4 h)))
noncomputable def c14 := cL c1
@[simp] def n1 (G : KT1 R) (v0 v1 v4 : GV) (h : Heap) := (klen v0).bind fun v7 => (klen v1).bind fun v9 => (kbin .neq v7 v9).bind fun v10 => kcond v10 (G .ret (.bool false) h) (n2 k G v0 v1 v4 h)
theorem n1_eq (G : KT1 R) : KC k 26 c1 σ h (Q1 G 4) = W3 (n1 k G) 0 1 4 σ h := (kseq (a := c14) (b := c2) rfl (fun σ h => n2_eq k σ h G)).trans (by kernel_rfl)
noncomputable def c15 := cL c0
@[simp] def n0 (G : KT1 R) (v0 v1 : GV) (h : Heap) := n1 k G v0 v1 (.bool false) h
theorem n0_eq (G : KT1 R) : KC k 26 c0 σ h (Q1 G 4) = W2 (n0 k G) 0 1 σ h := (kseq (a := c15) (b := c1) rfl (fun σ h => n1_eq k σ h G)).trans (by kernel_rfl)
def run {R : Type} (k : Nat) (a0 a1 : GV) (h : Heap) (fin : GV → Heap → Option R) : Option R := n0 k (fun x v4 h => kend x (fin v4 h)) a0 a1 h
theorem gives {k : Nat} {a0 a1 : GV} {v : GV} (e : run k a0 a1 [] finN = some v) : NN fn.spec_l17Same [a0, a1] = some v := nω_of (by kernel_rfl) (((kfun_eq (nt := 26) (c := c0) (show PP.funcs[fn.spec_l17Same]? = some Try.f120 by kernel_rfl) (by kernel_rfl) (by kernel_rfl) (fun x σ h => by cases x <;> kernel_rfl)).trans (n0_eq k _ [] _)).trans e)
end S.spec_l17Same
namespace S.spec_l17Texts
noncomputable def c0 := bodyOf Try.f121
@[simp] def n0 {R : Type} (k : Nat) (G : KT1 R) (v0 : GV) (h : Heap) := (kapp [(.str { data := #[] })] 1 16 .emp v0 h).bind fun r => kr r fun v5 h => G .ret v5 h
theorem n0_eq (G : KT1 R) : KC k 6 c0 σ h (Q1 G 2) = n0 k G (σ 0) h := by kernel_rfl
def run {R : Type} (k : Nat) (a0 : GV) (h : Heap) (fin : GV → Heap → Option R) : Option R := n0 k (fun x v2 h => kend x (fin v2 h)) a0 h
theorem gives {k : Nat} {a0 : GV} {b : Nat} {q : GV × List (List GV)} (e : run k a0 [] (finO b) = some q) : OO fn.spec_l17Texts [a0] b = some q := oω_of (((kfun_eq (nt := 6) (c := c0) (show PP.funcs[fn.spec_l17Texts]? = some Try.f121 by kernel_rfl) (by kernel_rfl) (by kernel_rfl) (fun x σ h => by cases x <;> kernel_rfl)).trans (n0_eq k _ [] _)).trans e)
end S.spec_l17Texts
namespace S.slices_ContainsFunc_impl_Server
noncomputable def c0 := bodyOf Try.f138
@[simp] def n0 {R : Type} (k : Nat) (G : KT1 R) (v0 v1 : GV) (h : Heap) := (kN NN fn.slices_IndexFunc_impl_Server [v0, v1] h).bind fun v7 => (kbin .geq v7 (.int .i64 0)).bind fun v8 => G .ret v8 h
theorem n0_eq (G : KT1 R) : KC k 9 c0 σ h (Q1 G 4) = W2 (n0 k G) 0 1 σ h := by kernel_rfl
def run {R : Type} (k : Nat) (a0 a1 : GV) (h : Heap) (fin : GV → Heap → Option R) : Option R := n0 k (fun x v4 h => kend x (fin v4 h)) a0 a1 h
theorem gives {k : Nat} {a0 a1 : GV} {v : GV} (e : run k a0 a1 [] finN = some v) : NN fn.slices_ContainsFunc_impl_Server [a0, a1] = some v := nω_of (by kernel_rfl) (((kfun_eq (nt := 9) (c := c0) (show PP.funcs[fn.slices_ContainsFunc_impl_Server]? = some Try.f138 by kernel_rfl) (by kernel_rfl) (by kernel_rfl) (fun x σ h => by cases x <;> kernel_rfl)).trans (n0_eq k _ [] _)).trans e)
end S.slices_ContainsFunc_impl_Server
namespace S.impl_ChainOk_1
noncomputable def c0 := bodyOf Try.f139
@[simp] def n0 {R : Type} (k : Nat) (G : KT1 R) (v0 : GV) (h : Heap) := kbox v0 h fun v1 h => (kloadA 2 h v1).bind fun v3 => (kN NN fn.impl_isServer [v3] h).bind fun v4 => (kun .not v4).bind fun v5 => G .ret v5 h
theorem n0_eq (G : KT1 R) : KC k 6 c0 σ h (Q1 G 2) = n0 k G (σ 0) h := by kernel_rfl
def run {R : Type} (k : Nat) (a0 : GV) (h : Heap) (fin : GV → Heap → Option R) : Option R := n0 k (fun x v2 h => kend x (fin v2 h)) a0 h
theorem gives {k : Nat} {a0 : GV} {v : GV} (e : run k a0 [] finN = some v) : NN fn.impl_ChainOk_1 [a0] = some v := nω_of (by kernel_rfl) (((kfun_eq (nt := 6) (c := c0) (show PP.funcs[fn.impl_ChainOk_1]? = some Try.f139 by kernel_rfl) (by kernel_rfl) (by kernel_rfl) (fun x σ h => by cases x <;> kernel_rfl)).trans (n0_eq k _ [] _)).trans e)
end S.impl_ChainOk_1
namespace S.impl_isServer
noncomputable def c0 := bodyOf Try.f140
noncomputable def c1 := cR c0
noncomputable def c2 := cR c1
@[simp] def n2 {R : Type} (k : Nat) (G : KT1 R) (v2 : GV) (h : Heap) := G .ret v2 h
theorem n2_eq (G : KT1 R) : KC k 21 c2 σ h (Q1 G 2) = n2 k G (σ 2) h := by kernel_rfl
noncomputable def c3 := cL c1
noncomputable def o3 : Array Oper := cO c3
@[simp] def g3_4 {R : Type} (k : Nat) (G : KT1 R) (v15 v19 : GV) (h : Heap) := (kpick v15 v19 (.bool false)).bind fun v20 => G .nrm v20 h
theorem g3_4_eq (G : KT1 R) : kgroups PP cfg NN HH 21 o3 [(none, [17, 18])] σ h (fun σ h => G .nrm (σ 2) h) = W2 (g3_4 k G) 15 19 σ h := by kernel_rfl
@[simp] def g3_3 (G : KT1 R) (v1 v15 : GV) (h : Heap) := bif tr true v15 then (kfa 0 v1).bind fun v16 => (kload1 h v16).bind fun v17 => (kN NN fn.slices_ContainsFunc_string [v17, (.fn fn.impl_isServer_1 [])] h).bind fun v18 => (kun .not v18).bind fun v19 => g3_4 k G v15 v19 h else g3_4 k G v15 .un h
theorem g3_3_eq (G : KT1 R) : kgroups PP cfg NN HH 21 o3 [(some (12, true), [13, 14, 15, 16]), (none, [17, 18])] σ h (fun σ h => G .nrm (σ 2) h) = W2 (g3_3 k G) 1 15 σ h := (kgroups_cons (fun σ h => g3_4_eq k σ h G)).trans (by kernel_rfl)
@[simp] def g3_2 (G : KT1 R) (v1 v7 v13 : GV) (h : Heap) := (kpick v7 v13 (.bool false)).bind fun v14 => g3_3 k G v1 v14 h
theorem g3_2_eq (G : KT1 R) : kgroups PP cfg NN HH 21 o3 [(none, [11, 12]), (some (12, true), [13, 14, 15, 16]), (none, [17, 18])] σ h (fun σ h => G .nrm (σ 2) h) = W3 (g3_2 k G) 1 7 13 σ h := (kgroups_cons (fun σ h => g3_3_eq k σ h G)).trans (by kernel_rfl)
@[simp] def g3_1 (G : KT1 R) (v1 v7 : GV) (h : Heap) := bif tr true v7 then (kfa 1 v1).bind fun v8 => (kload1 h v8).bind fun v9 => (kfa 0 v1).bind fun v10 => (kload1 h v10).bind fun v11 => (klen v11).bind fun v12 => (kN NN fn.impl_in [v9, (.int .i64 0), v12] h).bind fun v13 => g3_2 k G v1 v7 v13 h else g3_2 k G v1 v7 .un h
theorem g3_1_eq (G : KT1 R) : kgroups PP cfg NN HH 21 o3 [(some (4, true), [5, 6, 7, 8, 9, 10]), (none, [11, 12]), (some (12, true), [13, 14, 15, 16]), (none, [17, 18])] σ h (fun σ h => G .nrm (σ 2) h) = W2 (g3_1 k G) 1 7 σ h := (kgroups_cons (fun σ h => g3_2_eq k σ h G)).trans (by kernel_rfl)
@[simp] def g3_0 (G : KT1 R) (v1 : GV) (h : Heap) := (kfa 0 v1).bind fun v3 => (kload1 h v3).bind fun v4 => (klen v4).bind fun v5 => (kbin .leq v5 (.int .i64 60)).bind fun v6 => g3_1 k G v1 v6 h
theorem g3_0_eq (G : KT1 R) : kgroups PP cfg NN HH 21 o3 [(none, [0, 1, 2, 3, 4]), (some (4, true), [5, 6, 7, 8, 9, 10]), (none, [11, 12]), (some (12, true), [13, 14, 15, 16]), (none, [17, 18])] σ h (fun σ h => G .nrm (σ 2) h) = g3_0 k G (σ 1) h := (kgroups_cons (fun σ h => g3_1_eq k σ h G)).trans (by kernel_rfl)
@[simp] def n3 (G : KT1 R) (v1 : GV) (h : Heap) := g3_0 k G v1 h
theorem n3_eq (G : KT1 R) : KC k 21 c3 σ h (Q1 G 2) = n3 k G (σ 1) h := (kregion_eq (id := 1) (draw := false) (ops := o3) (gs := [(none, [0, 1, 2, 3, 4]), (some (4, true), [5, 6, 7, 8, 9, 10]), (none, [11, 12]), (some (12, true), [13, 14, 15, 16]), (none, [17, 18])]) (by kernel_rfl) (by kernel_rfl) (by kernel_rfl)).trans (g3_0_eq k σ h G)
@[simp] def n1 (G : KT1 R) (v1 : GV) (h : Heap) := n3 k (fun x v2 h => kx x (n2 k G v2 h) (G x v2 h)) v1 h
theorem n1_eq (G : KT1 R) : KC k 21 c1 σ h (Q1 G 2) = n1 k G (σ 1) h := (kseq (b := c2) rfl (fun σ h => n2_eq k σ h G)).trans (n3_eq k σ h (fun x v2 h => kx x (n2 k G v2 h) (G x v2 h)))
noncomputable def c4 := cL c0
@[simp] def n0 (G : KT1 R) (v0 : GV) (h : Heap) := kbox v0 h fun v1 h => n1 k G v1 h
theorem n0_eq (G : KT1 R) : KC k 21 c0 σ h (Q1 G 2) = n0 k G (σ 0) h := (kseq (a := c4) (b := c1) rfl (fun σ h => n1_eq k σ h G)).trans (by kernel_rfl)
def run {R : Type} (k : Nat) (a0 : GV) (h : Heap) (fin : GV → Heap → Option R) : Option R := n0 k (fun x v2 h => kend x (fin v2 h)) a0 h
theorem gives {k : Nat} {a0 : GV} {v : GV} (e : run k a0 [] finN = some v) : NN fn.impl_isServer [a0] = some v := nω_of (by kernel_rfl) (((kfun_eq (nt := 21) (c := c0) (show PP.funcs[fn.impl_isServer]? = some Try.f140 by kernel_rfl) (by kernel_rfl) (by kernel_rfl) (fun x σ h => by cases x <;> kernel_rfl)).trans (n0_eq k _ [] _)).trans e)
end S.impl_isServer
namespace S.slices_Equal_string
noncomputable def c0 := bodyOf Try.f141
noncomputable def c1 := cR c0
noncomputable def c2 := cR c1
noncomputable def c3 := cR c2
@[simp] def n3 {R : Type} (k : Nat) (G : KT1 R) (h : Heap) := G .ret (.bool true) h
theorem n3_eq (G : KT1 R) : KC k 26 c3 σ h (Q1 G 4) = n3 k G h := by kernel_rfl
noncomputable def c4 := cL c2
noncomputable def c5 := cR c4
noncomputable def c6 := cL c5
noncomputable def c7 := cL c6
noncomputable def c8 := cR c7
noncomputable def c9 := cR c8
noncomputable def c10 := cR c9
@[simp] def n10 {R : Type} (k : Nat) (G : KT5 R) (v0 v1 v4 v12 v13 : GV) (h : Heap) := (kbin .add v13 (.int .i64 1)).bind fun v25 => G .nrm v0 v1 v4 v12 v25 h
theorem n10_eq (G : KT5 R) : KC k 26 c10 σ h (Q5 G 0 1 4 12 13) = W5 (n10 k G) 0 1 4 12 13 σ h := by kernel_rfl
noncomputable def c11 := cL c9
noncomputable def c12 := cL c11
@[simp] def n12 {R : Type} (k : Nat) (G : KT5 R) (v0 v1 v4 v12 v13 : GV) (h : Heap) := (kia 1 v0 v13).bind fun v18 => (kload1 h v18).bind fun v19 => (kia 1 v1 v13).bind fun v22 => (kload1 h v22).bind fun v23 => (kbin .neq v19 v23).bind fun v24 => kcond v24 (G .ret v0 v1 (.bool false) v12 v13 h) (G .nrm v0 v1 v4 v12 v13 h)
theorem n12_eq (G : KT5 R) : KC k 26 c12 σ h (Q5 G 0 1 4 12 13) = W5 (n12 k G) 0 1 4 12 13 σ h := by kernel_rfl
@[simp] def n11 (G : KT5 R) (v0 v1 v4 v12 v13 : GV) (h : Heap) := n12 k (fun x v0 v1 v4 v12 v13 h => kb 1 x fun x => G x v0 v1 v4 v12 v13 h) v0 v1 v4 v12 v13 h
theorem n11_eq (G : KT5 R) : KC k 26 c11 σ h (Q5 G 0 1 4 12 13) = W5 (n11 k G) 0 1 4 12 13 σ h := (kblock_eq (a := c12) rfl).trans (n12_eq k σ h (fun x v0 v1 v4 v12 v13 h => kb 1 x fun x => G x v0 v1 v4 v12 v13 h))
@[simp] def n9 (G : KT5 R) (v0 v1 v4 v12 v13 : GV) (h : Heap) := n11 k (fun x v0 v1 v4 v12 v13 h => kx x (n10 k G v0 v1 v4 v12 v13 h) (G x v0 v1 v4 v12 v13 h)) v0 v1 v4 v12 v13 h
theorem n9_eq (G : KT5 R) : KC k 26 c9 σ h (Q5 G 0 1 4 12 13) = W5 (n9 k G) 0 1 4 12 13 σ h := (kseq (b := c10) rfl (fun σ h => n10_eq k σ h G)).trans (n11_eq k σ h (fun x v0 v1 v4 v12 v13 h => kx x (n10 k G v0 v1 v4 v12 v13 h) (G x v0 v1 v4 v12 v13 h)))
noncomputable def c13 := cL c8
@[simp] def n8 (G : KT5 R) (v0 v1 v4 v12 v13 v14 : GV) (h : Heap) := kcond v14 (n9 k G v0 v1 v4 v12 v13 h) (G (.ext 0) v0 v1 v4 v12 v13 h)
theorem n8_eq (G : KT5 R) : KC k 26 c8 σ h (Q5 G 0 1 4 12 13) = W6 (n8 k G) 0 1 4 12 13 14 σ h := (kseq (a := c13) (b := c9) rfl (fun σ h => n9_eq k σ h G)).trans (by kernel_rfl)
noncomputable def c14 := cL c7
@[simp] def n7 (G : KT5 R) (v0 v1 v4 v12 v13 : GV) (h : Heap) := (kbin .lss v13 v12).bind fun v14 => n8 k G v0 v1 v4 v12 v13 v14 h
theorem n7_eq (G : KT5 R) : KC k 26 c7 σ h (Q5 G 0 1 4 12 13) = W5 (n7 k G) 0 1 4 12 13 σ h := (kseq (a := c14) (b := c8) rfl (fun σ h => n8_eq k σ h G)).trans (by kernel_rfl)
def l6 {R : Type} (k : Nat) (G : KT1 R) : Nat → GV → GV → GV → GV → GV → Heap → Option R
  | 0, _, _, _, _, _, _ => none
  | r + 1, v0, v1, v4, v12, v13, h => n7 k (fun x v0 v1 v4 v12 v13 h => kx x (l6 k G r v0 v1 v4 v12 v13 h) (G x v4 h)) v0 v1 v4 v12 v13 h
theorem l6_eq {R : Type} (k : Nat) (G : KT1 R) : ∀ (r : Nat) (σ : GS) (h : Heap), kloop (fun σ h K => KC k 26 c7 σ h K) r σ h (Q1 G 4) = l6 k G r (σ 0) (σ 1) (σ 4) (σ 12) (σ 13) h
  | 0, _, _ => rfl
  | r + 1, σ, h => (kloop_eq (fun σ h => l6_eq k G r σ h)).trans (n7_eq k σ h (fun x v0 v1 v4 v12 v13 h => kx x (l6 k G r v0 v1 v4 v12 v13 h) (G x v4 h)))
@[simp] def n6 (G : KT1 R) (v0 v1 v4 v12 v13 : GV) (h : Heap) := l6 k G k v0 v1 v4 v12 v13 h
theorem n6_eq (G : KT1 R) : KC k 26 c6 σ h (Q1 G 4) = W5 (n6 k G) 0 1 4 12 13 σ h := (kloopc_eq (a := c7) rfl).trans (l6_eq k G k σ h)
@[simp] def n5 (G : KT1 R) (v0 v1 v4 v12 v13 : GV) (h : Heap) := n6 k (fun x v4 h => kb 0 x fun x => G x v4 h) v0 v1 v4 v12 v13 h
theorem n5_eq (G : KT1 R) : KC k 26 c5 σ h (Q1 G 4) = W5 (n5 k G) 0 1 4 12 13 σ h := (kblock_eq (a := c6) rfl).trans (n6_eq k σ h (fun x v4 h => kb 0 x fun x => G x v4 h))
noncomputable def c15 := cL c4
@[simp] def n4 (G : KT1 R) (v0 v1 v4 : GV) (h : Heap) := (klen v0).bind fun v12 => n5 k G v0 v1 v4 v12 (.int .i64 0) h
theorem n4_eq (G : KT1 R) : KC k 26 c4 σ h (Q1 G 4) = W3 (n4 k G) 0 1 4 σ h := (kseq (a := c15) (b := c5) rfl (fun σ h => n5_eq k σ h G)).trans (by kernel_rfl)
@[simp] def n2 (G : KT1 R) (v0 v1 v4 : GV) (h : Heap) := n4 k (fun x v4 h => kx x (n3 k G h) (G x v4 h)) v0 v1 v4 h
theorem n2_eq (G : KT1 R) : KC k 26 c2 σ h (Q1 G 4) = W3 (n2 k G) 0 1 4 σ h := (kseq (b := c3) rfl (fun σ h => n3_eq k σ h G)).trans (n4_eq k σ h (fun x v4 h => kx x (n3 k G h) (G x v4 h)))
noncomputable def c16 := cL c1
@[simp] def n1 (G : KT1 R) (v0 v1 v4 : GV) (h : Heap) := (klen v0).bind fun v7 => (klen v1).bind fun v9 => (kbin .neq v7 v9).bind fun v10 => kcond v10 (G .ret (.bool false) h) (n2 k G v0 v1 v4 h)
theorem n1_eq (G : KT1 R) : KC k 26 c1 σ h (Q1 G 4) = W3 (n1 k G) 0 1 4 σ h := (kseq (a := c16) (b := c2) rfl (fun σ h => n2_eq k σ h G)).trans (by kernel_rfl)
noncomputable def c17 := cL c0
@[simp] def n0 (G : KT1 R) (v0 v1 : GV) (h : Heap) := n1 k G v0 v1 (.bool false) h
theorem n0_eq (G : KT1 R) : KC k 26 c0 σ h (Q1 G 4) = W2 (n0 k G) 0 1 σ h := (kseq (a := c17) (b := c1) rfl (fun σ h => n1_eq k σ h G)).trans (by kernel_rfl)
def run {R : Type} (k : Nat) (a0 a1 : GV) (h : Heap) (fin : GV → Heap → Option R) : Option R := n0 k (fun x v4 h => kend x (fin v4 h)) a0 a1 h
theorem gives {k : Nat} {a0 a1 : GV} {v : GV} (e : run k a0 a1 [] finN = some v) : NN fn.slices_Equal_string [a0, a1] = some v := nω_of (by kernel_rfl) (((kfun_eq (nt := 26) (c := c0) (show PP.funcs[fn.slices_Equal_string]? = some Try.f141 by kernel_rfl) (by kernel_rfl) (by kernel_rfl) (fun x σ h => by cases x <;> kernel_rfl)).trans (n0_eq k _ [] _)).trans e)
end S.slices_Equal_string
namespace S.slices_Concat_string
noncomputable def c0 := bodyOf Try.f142
noncomputable def c1 := cR c0
noncomputable def c2 := cR c1
noncomputable def c3 := cR c2
noncomputable def c4 := cR c3
noncomputable def c5 := cR c4
@[simp] def n5 {R : Type} (k : Nat) (G : KT1 R) (v6 : GV) (h : Heap) := G .ret v6 h
theorem n5_eq (G : KT1 R) : KC k 36 c5 σ h (Q1 G 2) = n5 k G (σ 6) h := by kernel_rfl
noncomputable def c6 := cL c4
noncomputable def c7 := cR c6
noncomputable def c8 := cL c7
noncomputable def c9 := cL c8
noncomputable def c10 := cR c9
noncomputable def c11 := cR c10
noncomputable def c12 := cR c11
@[simp] def n12 {R : Type} (k : Nat) (G : KT5 R) (v2 v6 v25 v26 v27 : GV) (h : Heap) := (kbin .add v27 (.int .i64 1)).bind fun v34 => G .nrm v2 v6 v25 v26 v34 h
theorem n12_eq (G : KT5 R) : KC k 36 c12 σ h (Q5 G 2 6 25 26 27) = W5 (n12 k G) 2 6 25 26 27 σ h := by kernel_rfl
noncomputable def c13 := cL c11
noncomputable def c14 := cL c13
@[simp] def n14 {R : Type} (k : Nat) (G : KT5 R) (v2 v6 v25 v26 v27 : GV) (h : Heap) := (kia 1 v25 v27).bind fun v29 => (kload1 h v29).bind fun v30 => (kapp [(.str { data := #[] })] 1 16 v6 v30 h).bind fun r => kr r fun v33 h => G .nrm v2 v33 v25 v26 v27 h
theorem n14_eq (G : KT5 R) : KC k 36 c14 σ h (Q5 G 2 6 25 26 27) = W5 (n14 k G) 2 6 25 26 27 σ h := by kernel_rfl
@[simp] def n13 (G : KT5 R) (v2 v6 v25 v26 v27 : GV) (h : Heap) := n14 k (fun x v2 v6 v25 v26 v27 h => kb 3 x fun x => G x v2 v6 v25 v26 v27 h) v2 v6 v25 v26 v27 h
theorem n13_eq (G : KT5 R) : KC k 36 c13 σ h (Q5 G 2 6 25 26 27) = W5 (n13 k G) 2 6 25 26 27 σ h := (kblock_eq (a := c14) rfl).trans (n14_eq k σ h (fun x v2 v6 v25 v26 v27 h => kb 3 x fun x => G x v2 v6 v25 v26 v27 h))
@[simp] def n11 (G : KT5 R) (v2 v6 v25 v26 v27 : GV) (h : Heap) := n13 k (fun x v2 v6 v25 v26 v27 h => kx x (n12 k G v2 v6 v25 v26 v27 h) (G x v2 v6 v25 v26 v27 h)) v2 v6 v25 v26 v27 h
theorem n11_eq (G : KT5 R) : KC k 36 c11 σ h (Q5 G 2 6 25 26 27) = W5 (n11 k G) 2 6 25 26 27 σ h := (kseq (b := c12) rfl (fun σ h => n12_eq k σ h G)).trans (n13_eq k σ h (fun x v2 v6 v25 v26 v27 h => kx x (n12 k G v2 v6 v25 v26 v27 h) (G x v2 v6 v25 v26 v27 h)))
noncomputable def c15 := cL c10
@[simp] def n10 (G : KT5 R) (v2 v6 v25 v26 v27 v28 : GV) (h : Heap) := kcond v28 (n11 k G v2 v6 v25 v26 v27 h) (G (.ext 2) v2 v6 v25 v26 v27 h)
theorem n10_eq (G : KT5 R) : KC k 36 c10 σ h (Q5 G 2 6 25 26 27) = W6 (n10 k G) 2 6 25 26 27 28 σ h := (kseq (a := c15) (b := c11) rfl (fun σ h => n11_eq k σ h G)).trans (by kernel_rfl)
noncomputable def c16 := cL c9
@[simp] def n9 (G : KT5 R) (v2 v6 v25 v26 v27 : GV) (h : Heap) := (kbin .lss v27 v26).bind fun v28 => n10 k G v2 v6 v25 v26 v27 v28 h
theorem n9_eq (G : KT5 R) : KC k 36 c9 σ h (Q5 G 2 6 25 26 27) = W5 (n9 k G) 2 6 25 26 27 σ h := (kseq (a := c16) (b := c10) rfl (fun σ h => n10_eq k σ h G)).trans (by kernel_rfl)
def l8 {R : Type} (k : Nat) (G : KT2 R) : Nat → GV → GV → GV → GV → GV → Heap → Option R
  | 0, _, _, _, _, _, _ => none
  | r + 1, v2, v6, v25, v26, v27, h => n9 k (fun x v2 v6 v25 v26 v27 h => kx x (l8 k G r v2 v6 v25 v26 v27 h) (G x v2 v6 h)) v2 v6 v25 v26 v27 h
theorem l8_eq {R : Type} (k : Nat) (G : KT2 R) : ∀ (r : Nat) (σ : GS) (h : Heap), kloop (fun σ h K => KC k 36 c9 σ h K) r σ h (Q2 G 2 6) = l8 k G r (σ 2) (σ 6) (σ 25) (σ 26) (σ 27) h
  | 0, _, _ => rfl
  | r + 1, σ, h => (kloop_eq (fun σ h => l8_eq k G r σ h)).trans (n9_eq k σ h (fun x v2 v6 v25 v26 v27 h => kx x (l8 k G r v2 v6 v25 v26 v27 h) (G x v2 v6 h)))
@[simp] def n8 (G : KT2 R) (v2 v6 v25 v26 v27 : GV) (h : Heap) := l8 k G k v2 v6 v25 v26 v27 h
theorem n8_eq (G : KT2 R) : KC k 36 c8 σ h (Q2 G 2 6) = W5 (n8 k G) 2 6 25 26 27 σ h := (kloopc_eq (a := c9) rfl).trans (l8_eq k G k σ h)
@[simp] def n7 (G : KT2 R) (v2 v6 v25 v26 v27 : GV) (h : Heap) := n8 k (fun x v2 v6 h => kb 2 x fun x => G x v2 v6 h) v2 v6 v25 v26 v27 h
theorem n7_eq (G : KT2 R) : KC k 36 c7 σ h (Q2 G 2 6) = W5 (n7 k G) 2 6 25 26 27 σ h := (kblock_eq (a := c8) rfl).trans (n8_eq k σ h (fun x v2 v6 h => kb 2 x fun x => G x v2 v6 h))
noncomputable def c17 := cL c6
@[simp] def n6 (G : KT2 R) (v0 v2 v6 : GV) (h : Heap) := (klen v0).bind fun v26 => n7 k G v2 v6 v0 v26 (.int .i64 0) h
theorem n6_eq (G : KT2 R) : KC k 36 c6 σ h (Q2 G 2 6) = W3 (n6 k G) 0 2 6 σ h := (kseq (a := c17) (b := c7) rfl (fun σ h => n7_eq k σ h G)).trans (by kernel_rfl)
@[simp] def n4 (G : KT1 R) (v0 v2 v6 : GV) (h : Heap) := n6 k (fun x v2 v6 h => kx x (n5 k G v6 h) (G x v2 h)) v0 v2 v6 h
theorem n4_eq (G : KT1 R) : KC k 36 c4 σ h (Q1 G 2) = W3 (n4 k G) 0 2 6 σ h := (kseq (b := c5) rfl (fun σ h => n5_eq k σ h G)).trans (n6_eq k σ h (fun x v2 v6 h => kx x (n5 k G v6 h) (G x v2 h)))
noncomputable def c18 := cL c3
@[simp] def n3 (G : KT1 R) (v0 v2 v3 : GV) (h : Heap) := (HH fn.slices_Grow_string [.nils, v3] h).bind fun r => kr r fun v24 h => n4 k G v0 v2 v24 h
theorem n3_eq (G : KT1 R) : KC k 36 c3 σ h (Q1 G 2) = W3 (n3 k G) 0 2 3 σ h := (kseq (a := c18) (b := c4) rfl (fun σ h => n4_eq k σ h G)).trans (by kernel_rfl)
noncomputable def c19 := cL c2
noncomputable def c20 := cR c19
noncomputable def c21 := cL c20
noncomputable def c22 := cL c21
noncomputable def c23 := cR c22
noncomputable def c24 := cR c23
noncomputable def c25 := cR c24
@[simp] def n25 {R : Type} (k : Nat) (G : KT6 R) (v0 v2 v3 v9 v10 v11 : GV) (h : Heap) := (kbin .add v11 (.int .i64 1)).bind fun v22 => G .nrm v0 v2 v3 v9 v10 v22 h
theorem n25_eq (G : KT6 R) : KC k 36 c25 σ h (Q6 G 0 2 3 9 10 11) = W6 (n25 k G) 0 2 3 9 10 11 σ h := by kernel_rfl
noncomputable def c26 := cL c24
noncomputable def c27 := cL c26
@[simp] def n27 {R : Type} (k : Nat) (G : KT6 R) (v0 v2 v3 v9 v10 v11 : GV) (h : Heap) := (kia 1 v9 v11).bind fun v13 => (kload1 h v13).bind fun v14 => (klen v14).bind fun v17 => (kbin .add v3 v17).bind fun v18 => (kbin .lss v18 (.int .i64 0)).bind fun v20 => kcond v20 (none) (G .nrm v0 v2 v18 v9 v10 v11 h)
theorem n27_eq (G : KT6 R) : KC k 36 c27 σ h (Q6 G 0 2 3 9 10 11) = W6 (n27 k G) 0 2 3 9 10 11 σ h := by kernel_rfl
@[simp] def n26 (G : KT6 R) (v0 v2 v3 v9 v10 v11 : GV) (h : Heap) := n27 k (fun x v0 v2 v3 v9 v10 v11 h => kb 1 x fun x => G x v0 v2 v3 v9 v10 v11 h) v0 v2 v3 v9 v10 v11 h
theorem n26_eq (G : KT6 R) : KC k 36 c26 σ h (Q6 G 0 2 3 9 10 11) = W6 (n26 k G) 0 2 3 9 10 11 σ h := (kblock_eq (a := c27) rfl).trans (n27_eq k σ h (fun x v0 v2 v3 v9 v10 v11 h => kb 1 x fun x => G x v0 v2 v3 v9 v10 v11 h))
@[simp] def n24 (G : KT6 R) (v0 v2 v3 v9 v10 v11 : GV) (h : Heap) := n26 k (fun x v0 v2 v3 v9 v10 v11 h => kx x (n25 k G v0 v2 v3 v9 v10 v11 h) (G x v0 v2 v3 v9 v10 v11 h)) v0 v2 v3 v9 v10 v11 h
theorem n24_eq (G : KT6 R) : KC k 36 c24 σ h (Q6 G 0 2 3 9 10 11) = W6 (n24 k G) 0 2 3 9 10 11 σ h := (kseq (b := c25) rfl (fun σ h => n25_eq k σ h G)).trans (n26_eq k σ h (fun x v0 v2 v3 v9 v10 v11 h => kx x (n25 k G v0 v2 v3 v9 v10 v11 h) (G x v0 v2 v3 v9 v10 v11 h)))
noncomputable def c28 := cL c23
@[simp] def n23 (G : KT6 R) (v0 v2 v3 v9 v10 v11 v12 : GV) (h : Heap) := kcond v12 (n24 k G v0 v2 v3 v9 v10 v11 h) (G (.ext 0) v0 v2 v3 v9 v10 v11 h)
theorem n23_eq (G : KT6 R) : KC k 36 c23 σ h (Q6 G 0 2 3 9 10 11) = W7 (n23 k G) 0 2 3 9 10 11 12 σ h := (kseq (a := c28) (b := c24) rfl (fun σ h => n24_eq k σ h G)).trans (by kernel_rfl)
noncomputable def c29 := cL c22
@[simp] def n22 (G : KT6 R) (v0 v2 v3 v9 v10 v11 : GV) (h : Heap) := (kbin .lss v11 v10).bind fun v12 => n23 k G v0 v2 v3 v9 v10 v11 v12 h
theorem n22_eq (G : KT6 R) : KC k 36 c22 σ h (Q6 G 0 2 3 9 10 11) = W6 (n22 k G) 0 2 3 9 10 11 σ h := (kseq (a := c29) (b := c23) rfl (fun σ h => n23_eq k σ h G)).trans (by kernel_rfl)
def l21 {R : Type} (k : Nat) (G : KT3 R) : Nat → GV → GV → GV → GV → GV → GV → Heap → Option R
  | 0, _, _, _, _, _, _, _ => none
  | r + 1, v0, v2, v3, v9, v10, v11, h => n22 k (fun x v0 v2 v3 v9 v10 v11 h => kx x (l21 k G r v0 v2 v3 v9 v10 v11 h) (G x v0 v2 v3 h)) v0 v2 v3 v9 v10 v11 h
theorem l21_eq {R : Type} (k : Nat) (G : KT3 R) : ∀ (r : Nat) (σ : GS) (h : Heap), kloop (fun σ h K => KC k 36 c22 σ h K) r σ h (Q3 G 0 2 3) = l21 k G r (σ 0) (σ 2) (σ 3) (σ 9) (σ 10) (σ 11) h
  | 0, _, _ => rfl
  | r + 1, σ, h => (kloop_eq (fun σ h => l21_eq k G r σ h)).trans (n22_eq k σ h (fun x v0 v2 v3 v9 v10 v11 h => kx x (l21 k G r v0 v2 v3 v9 v10 v11 h) (G x v0 v2 v3 h)))
@[simp] def n21 (G : KT3 R) (v0 v2 v3 v9 v10 v11 : GV) (h : Heap) := l21 k G k v0 v2 v3 v9 v10 v11 h
theorem n21_eq (G : KT3 R) : KC k 36 c21 σ h (Q3 G 0 2 3) = W6 (n21 k G) 0 2 3 9 10 11 σ h := (kloopc_eq (a := c22) rfl).trans (l21_eq k G k σ h)
@[simp] def n20 (G : KT3 R) (v0 v2 v3 v9 v10 v11 : GV) (h : Heap) := n21 k (fun x v0 v2 v3 h => kb 0 x fun x => G x v0 v2 v3 h) v0 v2 v3 v9 v10 v11 h
theorem n20_eq (G : KT3 R) : KC k 36 c20 σ h (Q3 G 0 2 3) = W6 (n20 k G) 0 2 3 9 10 11 σ h := (kblock_eq (a := c21) rfl).trans (n21_eq k σ h (fun x v0 v2 v3 h => kb 0 x fun x => G x v0 v2 v3 h))
noncomputable def c30 := cL c19
@[simp] def n19 (G : KT3 R) (v0 v2 v3 : GV) (h : Heap) := (klen v0).bind fun v10 => n20 k G v0 v2 v3 v0 v10 (.int .i64 0) h
theorem n19_eq (G : KT3 R) : KC k 36 c19 σ h (Q3 G 0 2 3) = W3 (n19 k G) 0 2 3 σ h := (kseq (a := c30) (b := c20) rfl (fun σ h => n20_eq k σ h G)).trans (by kernel_rfl)
@[simp] def n2 (G : KT1 R) (v0 v2 v3 : GV) (h : Heap) := n19 k (fun x v0 v2 v3 h => kx x (n3 k G v0 v2 v3 h) (G x v2 h)) v0 v2 v3 h
theorem n2_eq (G : KT1 R) : KC k 36 c2 σ h (Q1 G 2) = W3 (n2 k G) 0 2 3 σ h := (kseq (b := c3) rfl (fun σ h => n3_eq k σ h G)).trans (n19_eq k σ h (fun x v0 v2 v3 h => kx x (n3 k G v0 v2 v3 h) (G x v2 h)))
noncomputable def c31 := cL c1
@[simp] def n1 (G : KT1 R) (v0 v2 : GV) (h : Heap) := n2 k G v0 v2 (.int .i64 0) h
theorem n1_eq (G : KT1 R) : KC k 36 c1 σ h (Q1 G 2) = W2 (n1 k G) 0 2 σ h := (kseq (a := c31) (b := c2) rfl (fun σ h => n2_eq k σ h G)).trans (by kernel_rfl)
noncomputable def c32 := cL c0
@[simp] def n0 (G : KT1 R) (v0 : GV) (h : Heap) := n1 k G v0 .nils h
theorem n0_eq (G : KT1 R) : KC k 36 c0 σ h (Q1 G 2) = n0 k G (σ 0) h := (kseq (a := c32) (b := c1) rfl (fun σ h => n1_eq k σ h G)).trans (by kernel_rfl)
def run {R : Type} (k : Nat) (a0 : GV) (h : Heap) (fin : GV → Heap → Option R) : Option R := n0 k (fun x v2 h => kend x (fin v2 h)) a0 h
theorem gives {k : Nat} {a0 : GV} {v : GV} (e : run k a0 [] finN = some v) : NN fn.slices_Concat_string [a0] = some v := nω_of (by kernel_rfl) (((kfun_eq (nt := 36) (c := c0) (show PP.funcs[fn.slices_Concat_string]? = some Try.f142 by kernel_rfl) (by kernel_rfl) (by kernel_rfl) (fun x σ h => by cases x <;> kernel_rfl)).trans (n0_eq k _ [] _)).trans e)
end S.slices_Concat_string
namespace S.impl_areUp
noncomputable def c0 := bodyOf Try.f143
noncomputable def c1 := cR c0
noncomputable def c2 := cR c1
@[simp] def n2 {R : Type} (k : Nat) (G : KT1 R) (v6 : GV) (h : Heap) := G .ret v6 h
theorem n2_eq (G : KT1 R) : KC k 15 c2 σ h (Q1 G 6) = n2 k G (σ 6) h := by kernel_rfl
noncomputable def c3 := cL c1
noncomputable def o3 : Array Oper := cO c3
@[simp] def g3_2 {R : Type} (k : Nat) (G : KT1 R) (v9 v13 : GV) (h : Heap) := (kpick v9 v13 (.bool false)).bind fun v14 => G .nrm v14 h
theorem g3_2_eq (G : KT1 R) : kgroups PP cfg NN HH 15 o3 [(none, [7, 8])] σ h (fun σ h => G .nrm (σ 6) h) = W2 (g3_2 k G) 9 13 σ h := by kernel_rfl
@[simp] def g3_1 (G : KT1 R) (v0 v4 v5 v9 : GV) (h : Heap) := bif tr true v9 then (kN NN fn.slices_ContainsFunc_int64 [v0, (.fn fn.impl_areUp_1 [v4, v5])] h).bind fun v12 => (kun .not v12).bind fun v13 => g3_2 k G v9 v13 h else g3_2 k G v9 .un h
theorem g3_1_eq (G : KT1 R) : kgroups PP cfg NN HH 15 o3 [(some (2, true), [3, 4, 5, 6]), (none, [7, 8])] σ h (fun σ h => G .nrm (σ 6) h) = W4 (g3_1 k G) 0 4 5 9 σ h := (kgroups_cons (fun σ h => g3_2_eq k σ h G)).trans (by kernel_rfl)
@[simp] def g3_0 (G : KT1 R) (v0 v4 v5 : GV) (h : Heap) := (kN NN fn.slices_IsSorted_int64 [v0] h).bind fun v8 => g3_1 k G v0 v4 v5 v8 h
theorem g3_0_eq (G : KT1 R) : kgroups PP cfg NN HH 15 o3 [(none, [0, 1, 2]), (some (2, true), [3, 4, 5, 6]), (none, [7, 8])] σ h (fun σ h => G .nrm (σ 6) h) = W3 (g3_0 k G) 0 4 5 σ h := (kgroups_cons (fun σ h => g3_1_eq k σ h G)).trans (by kernel_rfl)
@[simp] def n3 (G : KT1 R) (v0 v4 v5 : GV) (h : Heap) := g3_0 k G v0 v4 v5 h
theorem n3_eq (G : KT1 R) : KC k 15 c3 σ h (Q1 G 6) = W3 (n3 k G) 0 4 5 σ h := (kregion_eq (id := 1) (draw := false) (ops := o3) (gs := [(none, [0, 1, 2]), (some (2, true), [3, 4, 5, 6]), (none, [7, 8])]) (by kernel_rfl) (by kernel_rfl) (by kernel_rfl)).trans (g3_0_eq k σ h G)
@[simp] def n1 (G : KT1 R) (v0 v4 v5 : GV) (h : Heap) := n3 k (fun x v6 h => kx x (n2 k G v6 h) (G x v6 h)) v0 v4 v5 h
theorem n1_eq (G : KT1 R) : KC k 15 c1 σ h (Q1 G 6) = W3 (n1 k G) 0 4 5 σ h := (kseq (b := c2) rfl (fun σ h => n2_eq k σ h G)).trans (n3_eq k σ h (fun x v6 h => kx x (n2 k G v6 h) (G x v6 h)))
noncomputable def c4 := cL c0
@[simp] def n0 (G : KT1 R) (v0 v1 v2 : GV) (h : Heap) := kbox v1 h fun v4 h => kbox v2 h fun v5 h => n1 k G v0 v4 v5 h
theorem n0_eq (G : KT1 R) : KC k 15 c0 σ h (Q1 G 6) = W3 (n0 k G) 0 1 2 σ h := (kseq (a := c4) (b := c1) rfl (fun σ h => n1_eq k σ h G)).trans (by kernel_rfl)
def run {R : Type} (k : Nat) (a0 a1 a2 : GV) (h : Heap) (fin : GV → Heap → Option R) : Option R := n0 k (fun x v6 h => kend x (fin v6 h)) a0 a1 a2 h
theorem gives {k : Nat} {a0 a1 a2 : GV} {v : GV} (e : run k a0 a1 a2 [] finN = some v) : NN fn.impl_areUp [a0, a1, a2] = some v := nω_of (by kernel_rfl) (((kfun_eq (nt := 15) (c := c0) (show PP.funcs[fn.impl_areUp]? = some Try.f143 by kernel_rfl) (by kernel_rfl) (by kernel_rfl) (fun x σ h => by cases x <;> kernel_rfl)).trans (n0_eq k _ [] _)).trans e)
end S.impl_areUp
namespace S.slices_Clone_int64
noncomputable def c0 := bodyOf Try.f145
@[simp] def n0 {R : Type} (k : Nat) (G : KT1 R) (v0 : GV) (h : Heap) := (gbinop PP .eql 55 (.tmp 3) (.const (.slice none 0 0)) v0 .nils).bind fun v4 => kcond v4 (G .ret .nils h) ((kapp [(.int .i64 0)] 1 8 .emp v0 h).bind fun r => kr r fun v7 h => G .ret v7 h)
theorem n0_eq (G : KT1 R) : KC k 8 c0 σ h (Q1 G 2) = n0 k G (σ 0) h := by kernel_rfl
def run {R : Type} (k : Nat) (a0 : GV) (h : Heap) (fin : GV → Heap → Option R) : Option R := n0 k (fun x v2 h => kend x (fin v2 h)) a0 h
theorem run_eq {R : Type} (k : Nat) (a0 : GV) (h : Heap) (fin : GV → Heap → Option R) : kfun PP cfg NN HH k fn.slices_Clone_int64 [a0] h fin = run k a0 h fin := (kfun_eq (nt := 8) (c := c0) (show PP.funcs[fn.slices_Clone_int64]? = some Try.f145 by kernel_rfl) (by kernel_rfl) (by kernel_rfl) (fun x σ h => by cases x <;> kernel_rfl)).trans (n0_eq k _ h (fun x v2 h => kend x (fin v2 h)))
theorem gives {k : Nat} {a0 : GV} {b : Nat} {q : GV × List (List GV)} (e : run k a0 [] (finO b) = some q) : OO fn.slices_Clone_int64 [a0] b = some q := oω_of ((run_eq k a0 [] (finO b)).trans e)
end S.slices_Clone_int64
namespace S.impl_Chain_copied
noncomputable def c0 := bodyOf Try.f193
noncomputable def c1 := cR c0
noncomputable def c2 := cR c1
noncomputable def c3 := cR c2
noncomputable def c4 := cR c3
@[simp] def n4 {R : Type} (k : Nat) (G : KT1 R) (v2 v3 : GV) (h : Heap) := (kloadA 3 h v3).bind fun v56 => (kstore 3 h v2 v56).bind fun h => G .ret v2 h
theorem n4_eq (G : KT1 R) : KC k 57 c4 σ h (Q1 G 2) = W2 (n4 k G) 2 3 σ h := by kernel_rfl
noncomputable def c5 := cL c3
noncomputable def c6 := cR c5
noncomputable def c7 := cL c6
noncomputable def c8 := cL c7
noncomputable def c9 := cR c8
noncomputable def c10 := cR c9
noncomputable def c11 := cR c10
@[simp] def n11 {R : Type} (k : Nat) (G : KT5 R) (v1 v2 v3 v29 v30 : GV) (h : Heap) := (kbin .add v30 (.int .i64 1)).bind fun v55 => G .nrm v1 v2 v3 v29 v55 h
theorem n11_eq (G : KT5 R) : KC k 57 c11 σ h (Q5 G 1 2 3 29 30) = W5 (n11 k G) 1 2 3 29 30 σ h := by kernel_rfl
noncomputable def c12 := cL c10
noncomputable def c13 := cL c12
noncomputable def c14 := cR c13
noncomputable def o14 : Array Oper := cO c14
@[simp] def g14_0 {R : Type} (k : Nat) (G : KT5 R) (v1 v2 v3 v6 v29 v30 : GV) (rs : List Rec) (h : Heap) := (kfa 1 v3).bind fun v33 => (kload1 h v33).bind fun v34 => (kfa 1 v1).bind fun v35 => (kload1 h v35).bind fun v36 => (kia 1 v36 v6).bind fun v38 => (kload1 h v38).bind fun v39 => kold h fun h0 => (kF true HH fn.slices_Clone_string [v39] h).bind fun r => kr r fun v40 h => krs (rs ++ [⟨7, h0.length, h.length, ⟨[v39].flatMap (kborr h0), []⟩⟩]) fun rs => kold h fun h0 => (gfill (fun i => some (i * 1, 1)) (zeros [.nils] 1) [(0, v40)]).bind fun c => kbs 1 1 c h fun v41 h => krs (rs ++ [⟨8, h0.length, h.length, ⟨[], []⟩⟩]) fun rs => kold h fun h0 => (kapp [.nils] 1 24 v34 v41 h).bind fun r => kr r fun v42 h => krs (rs ++ [⟨9, h0.length, h.length, ⟨kblk v34 ++ kblk v41, kblk v34⟩⟩]) fun rs => (kfa 2 v3).bind fun v43 => kold h fun h0 => (kload1 h v43).bind fun v44 => krs (rs ++ [⟨11, h0.length, h.length, ⟨kblk v43, []⟩⟩]) fun rs => (kfa 2 v1).bind fun v45 => kold h fun h0 => (kload1 h v45).bind fun v46 => krs (rs ++ [⟨13, h0.length, h.length, ⟨kblk v45, []⟩⟩]) fun rs => (kia 1 v46 v6).bind fun v48 => kold h fun h0 => (kload1 h v48).bind fun v49 => krs (rs ++ [⟨16, h0.length, h.length, ⟨kblk v48, []⟩⟩]) fun rs => (kF true HH fn.slices_Clone_int64 [v49] h).bind fun r => kr r fun v50 h => (gfill (fun i => some (i * 1, 1)) (zeros [.nils] 1) [(0, v50)]).bind fun c => kbs 1 1 c h fun v51 h => (kapp [.nils] 1 24 v44 v51 h).bind fun r => kr r fun v52 h => (kfa 1 v3).bind fun v53 => (kstore 1 h v53 v42).bind fun h => (kfa 2 v3).bind fun v54 => (kstore 1 h v54 v52).bind fun h => bif chk [(7, 11), (7, 13), (7, 16), (8, 11), (8, 13), (8, 16), (9, 11), (9, 13), (9, 16)] rs then G .nrm v1 v2 v3 v29 v30 h else none
theorem g14_0_eq (G : KT5 R) (rs : List Rec) (σ : GS) (h : Heap) : kgroupsD PP cfg NN HH 57 o14 [(7, 11), (7, 13), (7, 16), (8, 11), (8, 13), (8, 16), (9, 11), (9, 13), (9, 16)] [(none, [0, 1, 2, 3, 4, 5, 6, 7, 8, 9, 10, 11, 12, 13, 14, 15, 16, 17, 18, 19, 20, 21, 22, 23])] rs σ h (fun rs σ h => bif chk [(7, 11), (7, 13), (7, 16), (8, 11), (8, 13), (8, 16), (9, 11), (9, 13), (9, 16)] rs then G .nrm (σ 1) (σ 2) (σ 3) (σ 29) (σ 30) h else none) = g14_0 k G (σ 1) (σ 2) (σ 3) (σ 6) (σ 29) (σ 30) rs h := by kernel_rfl
@[simp] def n14 (G : KT5 R) (v1 v2 v3 v6 v29 v30 : GV) (h : Heap) := g14_0 k G v1 v2 v3 v6 v29 v30 [] h
theorem n14_eq (G : KT5 R) : KC k 57 c14 σ h (Q5 G 1 2 3 29 30) = W6 (n14 k G) 1 2 3 6 29 30 σ h := (kregionD_eq (id := 10) (draw := true) (ops := o14) (gs := [(none, [0, 1, 2, 3, 4, 5, 6, 7, 8, 9, 10, 11, 12, 13, 14, 15, 16, 17, 18, 19, 20, 21, 22, 23])]) (bad := [(7, 11), (7, 13), (7, 16), (8, 11), (8, 13), (8, 16), (9, 11), (9, 13), (9, 16)]) (by kernel_rfl) (by kernel_rfl) (by kernel_rfl) (by kernel_rfl) (by kernel_rfl)).trans (g14_0_eq k G [] σ h)
noncomputable def c15 := cL c13
@[simp] def n13 (G : KT5 R) (v1 v2 v3 v29 v30 : GV) (h : Heap) := n14 k G v1 v2 v3 v30 v29 v30 h
theorem n13_eq (G : KT5 R) : KC k 57 c13 σ h (Q5 G 1 2 3 29 30) = W5 (n13 k G) 1 2 3 29 30 σ h := (kseq (a := c15) (b := c14) rfl (fun σ h => n14_eq k σ h G)).trans (by kernel_rfl)
@[simp] def n12 (G : KT5 R) (v1 v2 v3 v29 v30 : GV) (h : Heap) := n13 k (fun x v1 v2 v3 v29 v30 h => kb 3 x fun x => G x v1 v2 v3 v29 v30 h) v1 v2 v3 v29 v30 h
theorem n12_eq (G : KT5 R) : KC k 57 c12 σ h (Q5 G 1 2 3 29 30) = W5 (n12 k G) 1 2 3 29 30 σ h := (kblock_eq (a := c13) rfl).trans (n13_eq k σ h (fun x v1 v2 v3 v29 v30 h => kb 3 x fun x => G x v1 v2 v3 v29 v30 h))
@[simp] def n10 (G : KT5 R) (v1 v2 v3 v29 v30 : GV) (h : Heap) := n12 k (fun x v1 v2 v3 v29 v30 h => kx x (n11 k G v1 v2 v3 v29 v30 h) (G x v1 v2 v3 v29 v30 h)) v1 v2 v3 v29 v30 h
theorem n10_eq (G : KT5 R) : KC k 57 c10 σ h (Q5 G 1 2 3 29 30) = W5 (n10 k G) 1 2 3 29 30 σ h := (kseq (b := c11) rfl (fun σ h => n11_eq k σ h G)).trans (n12_eq k σ h (fun x v1 v2 v3 v29 v30 h => kx x (n11 k G v1 v2 v3 v29 v30 h) (G x v1 v2 v3 v29 v30 h)))
noncomputable def c16 := cL c9
@[simp] def n9 (G : KT5 R) (v1 v2 v3 v29 v30 v31 : GV) (h : Heap) := kcond v31 (n10 k G v1 v2 v3 v29 v30 h) (G (.ext 2) v1 v2 v3 v29 v30 h)
theorem n9_eq (G : KT5 R) : KC k 57 c9 σ h (Q5 G 1 2 3 29 30) = W6 (n9 k G) 1 2 3 29 30 31 σ h := (kseq (a := c16) (b := c10) rfl (fun σ h => n10_eq k σ h G)).trans (by kernel_rfl)
noncomputable def c17 := cL c8
@[simp] def n8 (G : KT5 R) (v1 v2 v3 v29 v30 : GV) (h : Heap) := (kbin .lss v30 v29).bind fun v31 => n9 k G v1 v2 v3 v29 v30 v31 h
theorem n8_eq (G : KT5 R) : KC k 57 c8 σ h (Q5 G 1 2 3 29 30) = W5 (n8 k G) 1 2 3 29 30 σ h := (kseq (a := c17) (b := c9) rfl (fun σ h => n9_eq k σ h G)).trans (by kernel_rfl)
def l7 {R : Type} (k : Nat) (G : KT2 R) : Nat → GV → GV → GV → GV → GV → Heap → Option R
  | 0, _, _, _, _, _, _ => none
  | r + 1, v1, v2, v3, v29, v30, h => n8 k (fun x v1 v2 v3 v29 v30 h => kx x (l7 k G r v1 v2 v3 v29 v30 h) (G x v2 v3 h)) v1 v2 v3 v29 v30 h
theorem l7_eq {R : Type} (k : Nat) (G : KT2 R) : ∀ (r : Nat) (σ : GS) (h : Heap), kloop (fun σ h K => KC k 57 c8 σ h K) r σ h (Q2 G 2 3) = l7 k G r (σ 1) (σ 2) (σ 3) (σ 29) (σ 30) h
  | 0, _, _ => rfl
  | r + 1, σ, h => (kloop_eq (fun σ h => l7_eq k G r σ h)).trans (n8_eq k σ h (fun x v1 v2 v3 v29 v30 h => kx x (l7 k G r v1 v2 v3 v29 v30 h) (G x v2 v3 h)))
@[simp] def n7 (G : KT2 R) (v1 v2 v3 v29 v30 : GV) (h : Heap) := l7 k G k v1 v2 v3 v29 v30 h
theorem n7_eq (G : KT2 R) : KC k 57 c7 σ h (Q2 G 2 3) = W5 (n7 k G) 1 2 3 29 30 σ h := (kloopc_eq (a := c8) rfl).trans (l7_eq k G k σ h)
@[simp] def n6 (G : KT2 R) (v1 v2 v3 v29 v30 : GV) (h : Heap) := n7 k (fun x v2 v3 h => kb 2 x fun x => G x v2 v3 h) v1 v2 v3 v29 v30 h
theorem n6_eq (G : KT2 R) : KC k 57 c6 σ h (Q2 G 2 3) = W5 (n6 k G) 1 2 3 29 30 σ h := (kblock_eq (a := c7) rfl).trans (n7_eq k σ h (fun x v2 v3 h => kb 2 x fun x => G x v2 v3 h))
noncomputable def c18 := cL c5
@[simp] def n5 (G : KT2 R) (v1 v2 v3 : GV) (h : Heap) := (kfa 1 v1).bind fun v27 => (kload1 h v27).bind fun v28 => (klen v28).bind fun v29 => n6 k G v1 v2 v3 v29 (.int .i64 0) h
theorem n5_eq (G : KT2 R) : KC k 57 c5 σ h (Q2 G 2 3) = W3 (n5 k G) 1 2 3 σ h := (kseq (a := c18) (b := c6) rfl (fun σ h => n6_eq k σ h G)).trans (by kernel_rfl)
@[simp] def n3 (G : KT1 R) (v1 v2 v3 : GV) (h : Heap) := n5 k (fun x v2 v3 h => kx x (n4 k G v2 v3 h) (G x v2 h)) v1 v2 v3 h
theorem n3_eq (G : KT1 R) : KC k 57 c3 σ h (Q1 G 2) = W3 (n3 k G) 1 2 3 σ h := (kseq (b := c4) rfl (fun σ h => n4_eq k σ h G)).trans (n5_eq k σ h (fun x v2 v3 h => kx x (n4 k G v2 v3 h) (G x v2 h)))
noncomputable def c19 := cL c2
noncomputable def c20 := cR c19
noncomputable def c21 := cL c20
noncomputable def c22 := cL c21
noncomputable def c23 := cR c22
noncomputable def c24 := cR c23
noncomputable def c25 := cR c24
@[simp] def n25 {R : Type} (k : Nat) (G : KT6 R) (v1 v2 v3 v9 v10 v11 : GV) (h : Heap) := (kbin .add v11 (.int .i64 1)).bind fun v26 => G .nrm v1 v2 v3 v9 v10 v26 h
theorem n25_eq (G : KT6 R) : KC k 57 c25 σ h (Q6 G 1 2 3 9 10 11) = W6 (n25 k G) 1 2 3 9 10 11 σ h := by kernel_rfl
noncomputable def c26 := cL c24
noncomputable def c27 := cL c26
noncomputable def c28 := cR c27
noncomputable def o28 : Array Oper := cO c28
@[simp] def g28_0 {R : Type} (k : Nat) (G : KT6 R) (v1 v2 v3 v5 v9 v10 v11 : GV) (rs : List Rec) (h : Heap) := (kfa 0 v3).bind fun v15 => (kload1 h v15).bind fun v16 => (kfa 0 v5).bind fun v17 => (kload1 h v17).bind fun v18 => kold h fun h0 => (kF true HH fn.slices_Clone_string [v18] h).bind fun r => kr r fun v19 h => krs (rs ++ [⟨4, h0.length, h.length, ⟨[v18].flatMap (kborr h0), []⟩⟩]) fun rs => (kfa 1 v5).bind fun v20 => kold h fun h0 => (kload1 h v20).bind fun v21 => krs (rs ++ [⟨6, h0.length, h.length, ⟨kblk v20, []⟩⟩]) fun rs => (gfill (fun i => [(0, 1), (1, 1)][i]?) [.nils, (.int .i64 0)] [(0, v19), (1, v21)]).bind fun c => kagg c h fun v22 h => (gfill (fun i => some (i * 2, 2)) (zeros [.nils, (.int .i64 0)] 1) [(0, v22)]).bind fun c => kbs 1 2 c h fun v23 h => (kapp [.nils, (.int .i64 0)] 2 32 v16 v23 h).bind fun r => kr r fun v24 h => (kfa 0 v3).bind fun v25 => (kstore 1 h v25 v24).bind fun h => bif chk [(4, 6)] rs then G .nrm v1 v2 v3 v9 v10 v11 h else none
theorem g28_0_eq (G : KT6 R) (rs : List Rec) (σ : GS) (h : Heap) : kgroupsD PP cfg NN HH 57 o28 [(4, 6)] [(none, [0, 1, 2, 3, 4, 5, 6, 7, 8, 9, 10, 11])] rs σ h (fun rs σ h => bif chk [(4, 6)] rs then G .nrm (σ 1) (σ 2) (σ 3) (σ 9) (σ 10) (σ 11) h else none) = g28_0 k G (σ 1) (σ 2) (σ 3) (σ 5) (σ 9) (σ 10) (σ 11) rs h := by kernel_rfl
@[simp] def n28 (G : KT6 R) (v1 v2 v3 v5 v9 v10 v11 : GV) (h : Heap) := g28_0 k G v1 v2 v3 v5 v9 v10 v11 [] h
theorem n28_eq (G : KT6 R) : KC k 57 c28 σ h (Q6 G 1 2 3 9 10 11) = W7 (n28 k G) 1 2 3 5 9 10 11 σ h := (kregionD_eq (id := 5) (draw := true) (ops := o28) (gs := [(none, [0, 1, 2, 3, 4, 5, 6, 7, 8, 9, 10, 11])]) (bad := [(4, 6)]) (by kernel_rfl) (by kernel_rfl) (by kernel_rfl) (by kernel_rfl) (by kernel_rfl)).trans (g28_0_eq k G [] σ h)
noncomputable def c29 := cL c27
@[simp] def n27 (G : KT6 R) (v1 v2 v3 v9 v10 v11 : GV) (h : Heap) := (kia 2 v9 v11).bind fun v13 => (kloadA 2 h v13).bind fun v14 => kalloc [.nils, (.int .i64 0)] h fun v5 h => (kstore 2 h v5 v14).bind fun h => n28 k G v1 v2 v3 v5 v9 v10 v11 h
theorem n27_eq (G : KT6 R) : KC k 57 c27 σ h (Q6 G 1 2 3 9 10 11) = W6 (n27 k G) 1 2 3 9 10 11 σ h := (kseq (a := c29) (b := c28) rfl (fun σ h => n28_eq k σ h G)).trans (by kernel_rfl)
@[simp] def n26 (G : KT6 R) (v1 v2 v3 v9 v10 v11 : GV) (h : Heap) := n27 k (fun x v1 v2 v3 v9 v10 v11 h => kb 1 x fun x => G x v1 v2 v3 v9 v10 v11 h) v1 v2 v3 v9 v10 v11 h
theorem n26_eq (G : KT6 R) : KC k 57 c26 σ h (Q6 G 1 2 3 9 10 11) = W6 (n26 k G) 1 2 3 9 10 11 σ h := (kblock_eq (a := c27) rfl).trans (n27_eq k σ h (fun x v1 v2 v3 v9 v10 v11 h => kb 1 x fun x => G x v1 v2 v3 v9 v10 v11 h))
@[simp] def n24 (G : KT6 R) (v1 v2 v3 v9 v10 v11 : GV) (h : Heap) := n26 k (fun x v1 v2 v3 v9 v10 v11 h => kx x (n25 k G v1 v2 v3 v9 v10 v11 h) (G x v1 v2 v3 v9 v10 v11 h)) v1 v2 v3 v9 v10 v11 h
theorem n24_eq (G : KT6 R) : KC k 57 c24 σ h (Q6 G 1 2 3 9 10 11) = W6 (n24 k G) 1 2 3 9 10 11 σ h := (kseq (b := c25) rfl (fun σ h => n25_eq k σ h G)).trans (n26_eq k σ h (fun x v1 v2 v3 v9 v10 v11 h => kx x (n25 k G v1 v2 v3 v9 v10 v11 h) (G x v1 v2 v3 v9 v10 v11 h)))
noncomputable def c30 := cL c23
@[simp] def n23 (G : KT6 R) (v1 v2 v3 v9 v10 v11 v12 : GV) (h : Heap) := kcond v12 (n24 k G v1 v2 v3 v9 v10 v11 h) (G (.ext 0) v1 v2 v3 v9 v10 v11 h)
theorem n23_eq (G : KT6 R) : KC k 57 c23 σ h (Q6 G 1 2 3 9 10 11) = W7 (n23 k G) 1 2 3 9 10 11 12 σ h := (kseq (a := c30) (b := c24) rfl (fun σ h => n24_eq k σ h G)).trans (by kernel_rfl)
noncomputable def c31 := cL c22
@[simp] def n22 (G : KT6 R) (v1 v2 v3 v9 v10 v11 : GV) (h : Heap) := (kbin .lss v11 v10).bind fun v12 => n23 k G v1 v2 v3 v9 v10 v11 v12 h
theorem n22_eq (G : KT6 R) : KC k 57 c22 σ h (Q6 G 1 2 3 9 10 11) = W6 (n22 k G) 1 2 3 9 10 11 σ h := (kseq (a := c31) (b := c23) rfl (fun σ h => n23_eq k σ h G)).trans (by kernel_rfl)
def l21 {R : Type} (k : Nat) (G : KT3 R) : Nat → GV → GV → GV → GV → GV → GV → Heap → Option R
  | 0, _, _, _, _, _, _, _ => none
  | r + 1, v1, v2, v3, v9, v10, v11, h => n22 k (fun x v1 v2 v3 v9 v10 v11 h => kx x (l21 k G r v1 v2 v3 v9 v10 v11 h) (G x v1 v2 v3 h)) v1 v2 v3 v9 v10 v11 h
theorem l21_eq {R : Type} (k : Nat) (G : KT3 R) : ∀ (r : Nat) (σ : GS) (h : Heap), kloop (fun σ h K => KC k 57 c22 σ h K) r σ h (Q3 G 1 2 3) = l21 k G r (σ 1) (σ 2) (σ 3) (σ 9) (σ 10) (σ 11) h
  | 0, _, _ => rfl
  | r + 1, σ, h => (kloop_eq (fun σ h => l21_eq k G r σ h)).trans (n22_eq k σ h (fun x v1 v2 v3 v9 v10 v11 h => kx x (l21 k G r v1 v2 v3 v9 v10 v11 h) (G x v1 v2 v3 h)))
@[simp] def n21 (G : KT3 R) (v1 v2 v3 v9 v10 v11 : GV) (h : Heap) := l21 k G k v1 v2 v3 v9 v10 v11 h
theorem n21_eq (G : KT3 R) : KC k 57 c21 σ h (Q3 G 1 2 3) = W6 (n21 k G) 1 2 3 9 10 11 σ h := (kloopc_eq (a := c22) rfl).trans (l21_eq k G k σ h)
@[simp] def n20 (G : KT3 R) (v1 v2 v3 v9 v10 v11 : GV) (h : Heap) := n21 k (fun x v1 v2 v3 h => kb 0 x fun x => G x v1 v2 v3 h) v1 v2 v3 v9 v10 v11 h
theorem n20_eq (G : KT3 R) : KC k 57 c20 σ h (Q3 G 1 2 3) = W6 (n20 k G) 1 2 3 9 10 11 σ h := (kblock_eq (a := c21) rfl).trans (n21_eq k σ h (fun x v1 v2 v3 h => kb 0 x fun x => G x v1 v2 v3 h))
noncomputable def c32 := cL c19
@[simp] def n19 (G : KT3 R) (v1 v2 v3 : GV) (h : Heap) := (kfa 0 v1).bind fun v8 => (kload1 h v8).bind fun v9 => (klen v9).bind fun v10 => n20 k G v1 v2 v3 v9 v10 (.int .i64 0) h
theorem n19_eq (G : KT3 R) : KC k 57 c19 σ h (Q3 G 1 2 3) = W3 (n19 k G) 1 2 3 σ h := (kseq (a := c32) (b := c20) rfl (fun σ h => n20_eq k σ h G)).trans (by kernel_rfl)
@[simp] def n2 (G : KT1 R) (v1 v2 v3 : GV) (h : Heap) := n19 k (fun x v1 v2 v3 h => kx x (n3 k G v1 v2 v3 h) (G x v2 h)) v1 v2 v3 h
theorem n2_eq (G : KT1 R) : KC k 57 c2 σ h (Q1 G 2) = W3 (n2 k G) 1 2 3 σ h := (kseq (b := c3) rfl (fun σ h => n3_eq k σ h G)).trans (n19_eq k σ h (fun x v1 v2 v3 h => kx x (n3 k G v1 v2 v3 h) (G x v2 h)))
noncomputable def c33 := cL c1
@[simp] def n1 (G : KT1 R) (v1 v2 : GV) (h : Heap) := (gfill (fun i => [(0, 1), (1, 1), (2, 1)][i]?) [.nils, .nils, .nils] []).bind fun c => kagg c h fun v7 h => kalloc [.nils, .nils, .nils] h fun v3 h => (kstore 3 h v3 v7).bind fun h => n2 k G v1 v2 v3 h
theorem n1_eq (G : KT1 R) : KC k 57 c1 σ h (Q1 G 2) = W2 (n1 k G) 1 2 σ h := (kseq (a := c33) (b := c2) rfl (fun σ h => n2_eq k σ h G)).trans (by kernel_rfl)
noncomputable def c34 := cL c0
@[simp] def n0 (G : KT1 R) (v0 : GV) (h : Heap) := kbox v0 h fun v1 h => kalloc [.nils, .nils, .nils] h fun v2 h => n1 k G v1 v2 h
theorem n0_eq (G : KT1 R) : KC k 57 c0 σ h (Q1 G 2) = n0 k G (σ 0) h := (kseq (a := c34) (b := c1) rfl (fun σ h => n1_eq k σ h G)).trans (by kernel_rfl)
def run {R : Type} (k : Nat) (a0 : GV) (h : Heap) (fin : GV → Heap → Option R) : Option R := n0 k (fun x v2 h => kend x ((kloadA 3 h v2).bind fun w2 => fin w2 h)) a0 h
theorem gives {k : Nat} {a0 : GV} {b : Nat} {q : GV × List (List GV)} (e : run k a0 [] (finO b) = some q) : OO fn.impl_Chain_copied [a0] b = some q := oω_of (((kfun_eq (nt := 57) (c := c0) (show PP.funcs[fn.impl_Chain_copied]? = some Try.f193 by kernel_rfl) (by kernel_rfl) (by kernel_rfl) (fun x σ h => by cases x <;> kernel_rfl)).trans (n0_eq k _ [] _)).trans e)
end S.impl_Chain_copied
namespace S.slices_IndexFunc_impl_Server
noncomputable def c0 := bodyOf Try.f200
noncomputable def c1 := cR c0
noncomputable def c2 := cR c1
@[simp] def n2 {R : Type} (k : Nat) (G : KT1 R) (h : Heap) := G .ret (.int .i64 (-1)) h
theorem n2_eq (G : KT1 R) : KC k 19 c2 σ h (Q1 G 4) = n2 k G h := by kernel_rfl
noncomputable def c3 := cL c1
noncomputable def c4 := cR c3
noncomputable def c5 := cL c4
noncomputable def c6 := cL c5
noncomputable def c7 := cR c6
noncomputable def c8 := cR c7
noncomputable def c9 := cR c8
@[simp] def n9 {R : Type} (k : Nat) (G : KT5 R) (v0 v1 v4 v7 v8 : GV) (h : Heap) := (kbin .add v8 (.int .i64 1)).bind fun v18 => G .nrm v0 v1 v4 v7 v18 h
theorem n9_eq (G : KT5 R) : KC k 19 c9 σ h (Q5 G 0 1 4 7 8) = W5 (n9 k G) 0 1 4 7 8 σ h := by kernel_rfl
noncomputable def c10 := cL c8
noncomputable def c11 := cL c10
@[simp] def n11 {R : Type} (k : Nat) (G : KT5 R) (v0 v1 v4 v7 v8 : GV) (h : Heap) := (kia 2 v0 v8).bind fun v14 => (kloadA 2 h v14).bind fun v15 => kval v1 [v15] h fun v16 h => kcond v16 (G .ret v0 v1 v8 v7 v8 h) (G .nrm v0 v1 v4 v7 v8 h)
theorem n11_eq (G : KT5 R) : KC k 19 c11 σ h (Q5 G 0 1 4 7 8) = W5 (n11 k G) 0 1 4 7 8 σ h := by kernel_rfl
@[simp] def n10 (G : KT5 R) (v0 v1 v4 v7 v8 : GV) (h : Heap) := n11 k (fun x v0 v1 v4 v7 v8 h => kb 1 x fun x => G x v0 v1 v4 v7 v8 h) v0 v1 v4 v7 v8 h
theorem n10_eq (G : KT5 R) : KC k 19 c10 σ h (Q5 G 0 1 4 7 8) = W5 (n10 k G) 0 1 4 7 8 σ h := (kblock_eq (a := c11) rfl).trans (n11_eq k σ h (fun x v0 v1 v4 v7 v8 h => kb 1 x fun x => G x v0 v1 v4 v7 v8 h))
@[simp] def n8 (G : KT5 R) (v0 v1 v4 v7 v8 : GV) (h : Heap) := n10 k (fun x v0 v1 v4 v7 v8 h => kx x (n9 k G v0 v1 v4 v7 v8 h) (G x v0 v1 v4 v7 v8 h)) v0 v1 v4 v7 v8 h
theorem n8_eq (G : KT5 R) : KC k 19 c8 σ h (Q5 G 0 1 4 7 8) = W5 (n8 k G) 0 1 4 7 8 σ h := (kseq (b := c9) rfl (fun σ h => n9_eq k σ h G)).trans (n10_eq k σ h (fun x v0 v1 v4 v7 v8 h => kx x (n9 k G v0 v1 v4 v7 v8 h) (G x v0 v1 v4 v7 v8 h)))
noncomputable def c12 := cL c7
@[simp] def n7 (G : KT5 R) (v0 v1 v4 v7 v8 v9 : GV) (h : Heap) := kcond v9 (n8 k G v0 v1 v4 v7 v8 h) (G (.ext 0) v0 v1 v4 v7 v8 h)
theorem n7_eq (G : KT5 R) : KC k 19 c7 σ h (Q5 G 0 1 4 7 8) = W6 (n7 k G) 0 1 4 7 8 9 σ h := (kseq (a := c12) (b := c8) rfl (fun σ h => n8_eq k σ h G)).trans (by kernel_rfl)
noncomputable def c13 := cL c6
@[simp] def n6 (G : KT5 R) (v0 v1 v4 v7 v8 : GV) (h : Heap) := (kbin .lss v8 v7).bind fun v9 => n7 k G v0 v1 v4 v7 v8 v9 h
theorem n6_eq (G : KT5 R) : KC k 19 c6 σ h (Q5 G 0 1 4 7 8) = W5 (n6 k G) 0 1 4 7 8 σ h := (kseq (a := c13) (b := c7) rfl (fun σ h => n7_eq k σ h G)).trans (by kernel_rfl)
def l5 {R : Type} (k : Nat) (G : KT1 R) : Nat → GV → GV → GV → GV → GV → Heap → Option R
  | 0, _, _, _, _, _, _ => none
  | r + 1, v0, v1, v4, v7, v8, h => n6 k (fun x v0 v1 v4 v7 v8 h => kx x (l5 k G r v0 v1 v4 v7 v8 h) (G x v4 h)) v0 v1 v4 v7 v8 h
theorem l5_eq {R : Type} (k : Nat) (G : KT1 R) : ∀ (r : Nat) (σ : GS) (h : Heap), kloop (fun σ h K => KC k 19 c6 σ h K) r σ h (Q1 G 4) = l5 k G r (σ 0) (σ 1) (σ 4) (σ 7) (σ 8) h
  | 0, _, _ => rfl
  | r + 1, σ, h => (kloop_eq (fun σ h => l5_eq k G r σ h)).trans (n6_eq k σ h (fun x v0 v1 v4 v7 v8 h => kx x (l5 k G r v0 v1 v4 v7 v8 h) (G x v4 h)))
@[simp] def n5 (G : KT1 R) (v0 v1 v4 v7 v8 : GV) (h : Heap) := l5 k G k v0 v1 v4 v7 v8 h
theorem n5_eq (G : KT1 R) : KC k 19 c5 σ h (Q1 G 4) = W5 (n5 k G) 0 1 4 7 8 σ h := (kloopc_eq (a := c6) rfl).trans (l5_eq k G k σ h)
@[simp] def n4 (G : KT1 R) (v0 v1 v4 v7 v8 : GV) (h : Heap) := n5 k (fun x v4 h => kb 0 x fun x => G x v4 h) v0 v1 v4 v7 v8 h
theorem n4_eq (G : KT1 R) : KC k 19 c4 σ h (Q1 G 4) = W5 (n4 k G) 0 1 4 7 8 σ h := (kblock_eq (a := c5) rfl).trans (n5_eq k σ h (fun x v4 h => kb 0 x fun x => G x v4 h))
noncomputable def c14 := cL c3
@[simp] def n3 (G : KT1 R) (v0 v1 v4 : GV) (h : Heap) := (klen v0).bind fun v7 => n4 k G v0 v1 v4 v7 (.int .i64 0) h
theorem n3_eq (G : KT1 R) : KC k 19 c3 σ h (Q1 G 4) = W3 (n3 k G) 0 1 4 σ h := (kseq (a := c14) (b := c4) rfl (fun σ h => n4_eq k σ h G)).trans (by kernel_rfl)
@[simp] def n1 (G : KT1 R) (v0 v1 v4 : GV) (h : Heap) := n3 k (fun x v4 h => kx x (n2 k G h) (G x v4 h)) v0 v1 v4 h
theorem n1_eq (G : KT1 R) : KC k 19 c1 σ h (Q1 G 4) = W3 (n1 k G) 0 1 4 σ h := (kseq (b := c2) rfl (fun σ h => n2_eq k σ h G)).trans (n3_eq k σ h (fun x v4 h => kx x (n2 k G h) (G x v4 h)))
noncomputable def c15 := cL c0
@[simp] def n0 (G : KT1 R) (v0 v1 : GV) (h : Heap) := n1 k G v0 v1 (.int .i64 0) h
theorem n0_eq (G : KT1 R) : KC k 19 c0 σ h (Q1 G 4) = W2 (n0 k G) 0 1 σ h := (kseq (a := c15) (b := c1) rfl (fun σ h => n1_eq k σ h G)).trans (by kernel_rfl)
def run {R : Type} (k : Nat) (a0 a1 : GV) (h : Heap) (fin : GV → Heap → Option R) : Option R := n0 k (fun x v4 h => kend x (fin v4 h)) a0 a1 h
theorem gives {k : Nat} {a0 a1 : GV} {v : GV} (e : run k a0 a1 [] finN = some v) : NN fn.slices_IndexFunc_impl_Server [a0, a1] = some v := nω_of (by kernel_rfl) (((kfun_eq (nt := 19) (c := c0) (show PP.funcs[fn.slices_IndexFunc_impl_Server]? = some Try.f200 by kernel_rfl) (by kernel_rfl) (by kernel_rfl) (fun x σ h => by cases x <;> kernel_rfl)).trans (n0_eq k _ [] _)).trans e)
end S.slices_IndexFunc_impl_Server
namespace S.slices_ContainsFunc_string
noncomputable def c0 := bodyOf Try.f201
@[simp] def n0 {R : Type} (k : Nat) (G : KT1 R) (v0 v1 : GV) (h : Heap) := (kN NN fn.slices_IndexFunc_string [v0, v1] h).bind fun v7 => (kbin .geq v7 (.int .i64 0)).bind fun v8 => G .ret v8 h
theorem n0_eq (G : KT1 R) : KC k 9 c0 σ h (Q1 G 4) = W2 (n0 k G) 0 1 σ h := by kernel_rfl
def run {R : Type} (k : Nat) (a0 a1 : GV) (h : Heap) (fin : GV → Heap → Option R) : Option R := n0 k (fun x v4 h => kend x (fin v4 h)) a0 a1 h
theorem gives {k : Nat} {a0 a1 : GV} {v : GV} (e : run k a0 a1 [] finN = some v) : NN fn.slices_ContainsFunc_string [a0, a1] = some v := nω_of (by kernel_rfl) (((kfun_eq (nt := 9) (c := c0) (show PP.funcs[fn.slices_ContainsFunc_string]? = some Try.f201 by kernel_rfl) (by kernel_rfl) (by kernel_rfl) (fun x σ h => by cases x <;> kernel_rfl)).trans (n0_eq k _ [] _)).trans e)
end S.slices_ContainsFunc_string
namespace S.impl_isServer_1
noncomputable def c0 := bodyOf Try.f202
@[simp] def n0 {R : Type} (k : Nat) (G : KT1 R) (v0 : GV) (h : Heap) := (klenS v0).bind fun v4 => (kbin .gtr v4 (.int .i64 200)).bind fun v5 => G .ret v5 h
theorem n0_eq (G : KT1 R) : KC k 6 c0 σ h (Q1 G 2) = n0 k G (σ 0) h := by kernel_rfl
def run {R : Type} (k : Nat) (a0 : GV) (h : Heap) (fin : GV → Heap → Option R) : Option R := n0 k (fun x v2 h => kend x (fin v2 h)) a0 h
theorem gives {k : Nat} {a0 : GV} {v : GV} (e : run k a0 [] finN = some v) : NN fn.impl_isServer_1 [a0] = some v := nω_of (by kernel_rfl) (((kfun_eq (nt := 6) (c := c0) (show PP.funcs[fn.impl_isServer_1]? = some Try.f202 by kernel_rfl) (by kernel_rfl) (by kernel_rfl) (fun x σ h => by cases x <;> kernel_rfl)).trans (n0_eq k _ [] _)).trans e)
end S.impl_isServer_1
namespace S.slices_Grow_string
noncomputable def c0 := bodyOf Try.f203
noncomputable def c1 := cR c0
noncomputable def c2 := cR c1
noncomputable def c3 := cR c2
@[simp] def n3 {R : Type} (k : Nat) (G : KT1 R) (v0 : GV) (h : Heap) := G .ret v0 h
theorem n3_eq (G : KT1 R) : KC k 27 c3 σ h (Q1 G 4) = n3 k G (σ 0) h := by kernel_rfl
noncomputable def c4 := cL c2
@[simp] def n2 (G : KT1 R) (v0 v1 v4 : GV) (h : Heap) := (kcap v0).bind fun v10 => (klen v0).bind fun v12 => (kbin .sub v10 v12).bind fun v13 => (kbin .sub v1 v13).bind fun v14 => (kbin .gtr v14 (.int .i64 0)).bind fun v16 => kcond v16 ((kcap v0).bind fun v19 => (ksl 1 v0 none (some v19) none).bind fun v20 => (kapz [(.str { data := #[] })] 1 16 v20 v14 h).bind fun r => kr r fun v22 h => (klen v0).bind fun v24 => (ksl 1 v22 none (some v24) none).bind fun v25 => n3 k G v25 h) (n3 k G v0 h)
theorem n2_eq (G : KT1 R) : KC k 27 c2 σ h (Q1 G 4) = W3 (n2 k G) 0 1 4 σ h := (kseq (a := c4) (b := c3) rfl (fun σ h => n3_eq k σ h G)).trans (by kernel_rfl)
noncomputable def c5 := cL c1
@[simp] def n1 (G : KT1 R) (v0 v1 v4 : GV) (h : Heap) := (kbin .lss v1 (.int .i64 0)).bind fun v6 => kcond v6 (none) (n2 k G v0 v1 v4 h)
theorem n1_eq (G : KT1 R) : KC k 27 c1 σ h (Q1 G 4) = W3 (n1 k G) 0 1 4 σ h := (kseq (a := c5) (b := c2) rfl (fun σ h => n2_eq k σ h G)).trans (by kernel_rfl)
noncomputable def c6 := cL c0
@[simp] def n0 (G : KT1 R) (v0 v1 : GV) (h : Heap) := n1 k G v0 v1 .nils h
theorem n0_eq (G : KT1 R) : KC k 27 c0 σ h (Q1 G 4) = W2 (n0 k G) 0 1 σ h := (kseq (a := c6) (b := c1) rfl (fun σ h => n1_eq k σ h G)).trans (by kernel_rfl)
def run {R : Type} (k : Nat) (a0 a1 : GV) (h : Heap) (fin : GV → Heap → Option R) : Option R := n0 k (fun x v4 h => kend x (fin v4 h)) a0 a1 h
theorem gives {k : Nat} {a0 a1 : GV} {h : Heap} {r : GV × Heap} (e : run k a0 a1 h finH = some r) : HH fn.slices_Grow_string [a0, a1] h = some r := kω_of (((kfun_eq (nt := 27) (c := c0) (show PP.funcs[fn.slices_Grow_string]? = some Try.f203 by kernel_rfl) (by kernel_rfl) (by kernel_rfl) (fun x σ h => by cases x <;> kernel_rfl)).trans (n0_eq k _ h _)).trans e)
end S.slices_Grow_string
namespace S.slices_IsSorted_int64
noncomputable def c0 := bodyOf Try.f204
noncomputable def c1 := cR c0
noncomputable def c2 := cR c1
@[simp] def n2 {R : Type} (k : Nat) (G : KT1 R) (h : Heap) := G .ret (.bool true) h
theorem n2_eq (G : KT1 R) : KC k 21 c2 σ h (Q1 G 2) = n2 k G h := by kernel_rfl
noncomputable def c3 := cL c1
noncomputable def c4 := cR c3
noncomputable def c5 := cL c4
noncomputable def c6 := cL c5
noncomputable def c7 := cR c6
noncomputable def c8 := cR c7
@[simp] def n8 {R : Type} (k : Nat) (G : KT3 R) (v0 v2 v3 : GV) (h : Heap) := (kbin .sub v3 (.int .i64 1)).bind fun v10 => G .nrm v0 v2 v10 h
theorem n8_eq (G : KT3 R) : KC k 21 c8 σ h (Q3 G 0 2 3) = W3 (n8 k G) 0 2 3 σ h := by kernel_rfl
noncomputable def c9 := cL c7
noncomputable def c10 := cL c9
@[simp] def n10 {R : Type} (k : Nat) (G : KT3 R) (v0 v2 v3 : GV) (h : Heap) := (kia 1 v0 v3).bind fun v13 => (kload1 h v13).bind fun v14 => (kbin .sub v3 (.int .i64 1)).bind fun v17 => (kia 1 v0 v17).bind fun v18 => (kload1 h v18).bind fun v19 => (kN NN fn.cmp_Less_int64 [v14, v19] h).bind fun v20 => kcond v20 (G .ret v0 (.bool false) v3 h) (G .nrm v0 v2 v3 h)
theorem n10_eq (G : KT3 R) : KC k 21 c10 σ h (Q3 G 0 2 3) = W3 (n10 k G) 0 2 3 σ h := by kernel_rfl
@[simp] def n9 (G : KT3 R) (v0 v2 v3 : GV) (h : Heap) := n10 k (fun x v0 v2 v3 h => kb 1 x fun x => G x v0 v2 v3 h) v0 v2 v3 h
theorem n9_eq (G : KT3 R) : KC k 21 c9 σ h (Q3 G 0 2 3) = W3 (n9 k G) 0 2 3 σ h := (kblock_eq (a := c10) rfl).trans (n10_eq k σ h (fun x v0 v2 v3 h => kb 1 x fun x => G x v0 v2 v3 h))
@[simp] def n7 (G : KT3 R) (v0 v2 v3 : GV) (h : Heap) := n9 k (fun x v0 v2 v3 h => kx x (n8 k G v0 v2 v3 h) (G x v0 v2 v3 h)) v0 v2 v3 h
theorem n7_eq (G : KT3 R) : KC k 21 c7 σ h (Q3 G 0 2 3) = W3 (n7 k G) 0 2 3 σ h := (kseq (b := c8) rfl (fun σ h => n8_eq k σ h G)).trans (n9_eq k σ h (fun x v0 v2 v3 h => kx x (n8 k G v0 v2 v3 h) (G x v0 v2 v3 h)))
noncomputable def c11 := cL c6
@[simp] def n6 (G : KT3 R) (v0 v2 v3 : GV) (h : Heap) := (kbin .gtr v3 (.int .i64 0)).bind fun v8 => kcond v8 (n7 k G v0 v2 v3 h) (G (.ext 0) v0 v2 v3 h)
theorem n6_eq (G : KT3 R) : KC k 21 c6 σ h (Q3 G 0 2 3) = W3 (n6 k G) 0 2 3 σ h := (kseq (a := c11) (b := c7) rfl (fun σ h => n7_eq k σ h G)).trans (by kernel_rfl)
def l5 {R : Type} (k : Nat) (G : KT1 R) : Nat → GV → GV → GV → Heap → Option R
  | 0, _, _, _, _ => none
  | r + 1, v0, v2, v3, h => n6 k (fun x v0 v2 v3 h => kx x (l5 k G r v0 v2 v3 h) (G x v2 h)) v0 v2 v3 h
theorem l5_eq {R : Type} (k : Nat) (G : KT1 R) : ∀ (r : Nat) (σ : GS) (h : Heap), kloop (fun σ h K => KC k 21 c6 σ h K) r σ h (Q1 G 2) = l5 k G r (σ 0) (σ 2) (σ 3) h
  | 0, _, _ => rfl
  | r + 1, σ, h => (kloop_eq (fun σ h => l5_eq k G r σ h)).trans (n6_eq k σ h (fun x v0 v2 v3 h => kx x (l5 k G r v0 v2 v3 h) (G x v2 h)))
@[simp] def n5 (G : KT1 R) (v0 v2 v3 : GV) (h : Heap) := l5 k G k v0 v2 v3 h
theorem n5_eq (G : KT1 R) : KC k 21 c5 σ h (Q1 G 2) = W3 (n5 k G) 0 2 3 σ h := (kloopc_eq (a := c6) rfl).trans (l5_eq k G k σ h)
@[simp] def n4 (G : KT1 R) (v0 v2 v3 : GV) (h : Heap) := n5 k (fun x v2 h => kb 0 x fun x => G x v2 h) v0 v2 v3 h
theorem n4_eq (G : KT1 R) : KC k 21 c4 σ h (Q1 G 2) = W3 (n4 k G) 0 2 3 σ h := (kblock_eq (a := c5) rfl).trans (n5_eq k σ h (fun x v2 h => kb 0 x fun x => G x v2 h))
noncomputable def c12 := cL c3
@[simp] def n3 (G : KT1 R) (v0 v2 : GV) (h : Heap) := (klen v0).bind fun v5 => (kbin .sub v5 (.int .i64 1)).bind fun v6 => n4 k G v0 v2 v6 h
theorem n3_eq (G : KT1 R) : KC k 21 c3 σ h (Q1 G 2) = W2 (n3 k G) 0 2 σ h := (kseq (a := c12) (b := c4) rfl (fun σ h => n4_eq k σ h G)).trans (by kernel_rfl)
@[simp] def n1 (G : KT1 R) (v0 v2 : GV) (h : Heap) := n3 k (fun x v2 h => kx x (n2 k G h) (G x v2 h)) v0 v2 h
theorem n1_eq (G : KT1 R) : KC k 21 c1 σ h (Q1 G 2) = W2 (n1 k G) 0 2 σ h := (kseq (b := c2) rfl (fun σ h => n2_eq k σ h G)).trans (n3_eq k σ h (fun x v2 h => kx x (n2 k G h) (G x v2 h)))
noncomputable def c13 := cL c0
@[simp] def n0 (G : KT1 R) (v0 : GV) (h : Heap) := n1 k G v0 (.bool false) h
theorem n0_eq (G : KT1 R) : KC k 21 c0 σ h (Q1 G 2) = n0 k G (σ 0) h := (kseq (a := c13) (b := c1) rfl (fun σ h => n1_eq k σ h G)).trans (by kernel_rfl)
def run {R : Type} (k : Nat) (a0 : GV) (h : Heap) (fin : GV → Heap → Option R) : Option R := n0 k (fun x v2 h => kend x (fin v2 h)) a0 h
theorem gives {k : Nat} {a0 : GV} {v : GV} (e : run k a0 [] finN = some v) : NN fn.slices_IsSorted_int64 [a0] = some v := nω_of (by kernel_rfl) (((kfun_eq (nt := 21) (c := c0) (show PP.funcs[fn.slices_IsSorted_int64]? = some Try.f204 by kernel_rfl) (by kernel_rfl) (by kernel_rfl) (fun x σ h => by cases x <;> kernel_rfl)).trans (n0_eq k _ [] _)).trans e)
end S.slices_IsSorted_int64
namespace S.slices_ContainsFunc_int64
noncomputable def c0 := bodyOf Try.f205
@[simp] def n0 {R : Type} (k : Nat) (G : KT1 R) (v0 v1 : GV) (h : Heap) := (kN NN fn.slices_IndexFunc_int64 [v0, v1] h).bind fun v7 => (kbin .geq v7 (.int .i64 0)).bind fun v8 => G .ret v8 h
theorem n0_eq (G : KT1 R) : KC k 9 c0 σ h (Q1 G 4) = W2 (n0 k G) 0 1 σ h := by kernel_rfl
def run {R : Type} (k : Nat) (a0 a1 : GV) (h : Heap) (fin : GV → Heap → Option R) : Option R := n0 k (fun x v4 h => kend x (fin v4 h)) a0 a1 h
theorem gives {k : Nat} {a0 a1 : GV} {v : GV} (e : run k a0 a1 [] finN = some v) : NN fn.slices_ContainsFunc_int64 [a0, a1] = some v := nω_of (by kernel_rfl) (((kfun_eq (nt := 9) (c := c0) (show PP.funcs[fn.slices_ContainsFunc_int64]? = some Try.f205 by kernel_rfl) (by kernel_rfl) (by kernel_rfl) (fun x σ h => by cases x <;> kernel_rfl)).trans (n0_eq k _ [] _)).trans e)
end S.slices_ContainsFunc_int64
namespace S.impl_areUp_1
noncomputable def c0 := bodyOf Try.f206
@[simp] def n0 {R : Type} (k : Nat) (G : KT1 R) (v0 v1 v2 : GV) (h : Heap) := (kload1 h v1).bind fun v6 => (kload1 h v2).bind fun v7 => (kN NN fn.impl_in [v0, v6, v7] h).bind fun v8 => (kun .not v8).bind fun v9 => G .ret v9 h
theorem n0_eq (G : KT1 R) : KC k 10 c0 σ h (Q1 G 4) = W3 (n0 k G) 0 1 2 σ h := by kernel_rfl
def run {R : Type} (k : Nat) (a0 a1 a2 : GV) (h : Heap) (fin : GV → Heap → Option R) : Option R := n0 k (fun x v4 h => kend x (fin v4 h)) a0 a1 a2 h
theorem gives {k : Nat} {a0 a1 a2 : GV} {v : GV} (e : run k a0 a1 a2 [] finN = some v) : NN fn.impl_areUp_1 [a0, a1, a2] = some v := nω_of (by kernel_rfl) (((kfun_eq (nt := 10) (c := c0) (show PP.funcs[fn.impl_areUp_1]? = some Try.f206 by kernel_rfl) (by kernel_rfl) (by kernel_rfl) (fun x σ h => by cases x <;> kernel_rfl)).trans (n0_eq k _ [] _)).trans e)
end S.impl_areUp_1
namespace S.slices_IndexFunc_int64
noncomputable def c0 := bodyOf Try.f212
noncomputable def c1 := cR c0
noncomputable def c2 := cR c1
@[simp] def n2 {R : Type} (k : Nat) (G : KT1 R) (h : Heap) := G .ret (.int .i64 (-1)) h
theorem n2_eq (G : KT1 R) : KC k 19 c2 σ h (Q1 G 4) = n2 k G h := by kernel_rfl
noncomputable def c3 := cL c1
noncomputable def c4 := cR c3
noncomputable def c5 := cL c4
noncomputable def c6 := cL c5
noncomputable def c7 := cR c6
noncomputable def c8 := cR c7
noncomputable def c9 := cR c8
@[simp] def n9 {R : Type} (k : Nat) (G : KT5 R) (v0 v1 v4 v7 v8 : GV) (h : Heap) := (kbin .add v8 (.int .i64 1)).bind fun v18 => G .nrm v0 v1 v4 v7 v18 h
theorem n9_eq (G : KT5 R) : KC k 19 c9 σ h (Q5 G 0 1 4 7 8) = W5 (n9 k G) 0 1 4 7 8 σ h := by kernel_rfl
noncomputable def c10 := cL c8
noncomputable def c11 := cL c10
@[simp] def n11 {R : Type} (k : Nat) (G : KT5 R) (v0 v1 v4 v7 v8 : GV) (h : Heap) := (kia 1 v0 v8).bind fun v14 => (kload1 h v14).bind fun v15 => kval v1 [v15] h fun v16 h => kcond v16 (G .ret v0 v1 v8 v7 v8 h) (G .nrm v0 v1 v4 v7 v8 h)
theorem n11_eq (G : KT5 R) : KC k 19 c11 σ h (Q5 G 0 1 4 7 8) = W5 (n11 k G) 0 1 4 7 8 σ h := by kernel_rfl
@[simp] def n10 (G : KT5 R) (v0 v1 v4 v7 v8 : GV) (h : Heap) := n11 k (fun x v0 v1 v4 v7 v8 h => kb 1 x fun x => G x v0 v1 v4 v7 v8 h) v0 v1 v4 v7 v8 h
theorem n10_eq (G : KT5 R) : KC k 19 c10 σ h (Q5 G 0 1 4 7 8) = W5 (n10 k G) 0 1 4 7 8 σ h := (kblock_eq (a := c11) rfl).trans (n11_eq k σ h (fun x v0 v1 v4 v7 v8 h => kb 1 x fun x => G x v0 v1 v4 v7 v8 h))
@[simp] def n8 (G : KT5 R) (v0 v1 v4 v7 v8 : GV) (h : Heap) := n10 k (fun x v0 v1 v4 v7 v8 h => kx x (n9 k G v0 v1 v4 v7 v8 h) (G x v0 v1 v4 v7 v8 h)) v0 v1 v4 v7 v8 h
theorem n8_eq (G : KT5 R) : KC k 19 c8 σ h (Q5 G 0 1 4 7 8) = W5 (n8 k G) 0 1 4 7 8 σ h := (kseq (b := c9) rfl (fun σ h => n9_eq k σ h G)).trans (n10_eq k σ h (fun x v0 v1 v4 v7 v8 h => kx x (n9 k G v0 v1 v4 v7 v8 h) (G x v0 v1 v4 v7 v8 h)))
noncomputable def c12 := cL c7
@[simp] def n7 (G : KT5 R) (v0 v1 v4 v7 v8 v9 : GV) (h : Heap) := kcond v9 (n8 k G v0 v1 v4 v7 v8 h) (G (.ext 0) v0 v1 v4 v7 v8 h)
theorem n7_eq (G : KT5 R) : KC k 19 c7 σ h (Q5 G 0 1 4 7 8) = W6 (n7 k G) 0 1 4 7 8 9 σ h := (kseq (a := c12) (b := c8) rfl (fun σ h => n8_eq k σ h G)).trans (by kernel_rfl)
noncomputable def c13 := cL c6
@[simp] def n6 (G : KT5 R) (v0 v1 v4 v7 v8 : GV) (h : Heap) := (kbin .lss v8 v7).bind fun v9 => n7 k G v0 v1 v4 v7 v8 v9 h
theorem n6_eq (G : KT5 R) : KC k 19 c6 σ h (Q5 G 0 1 4 7 8) = W5 (n6 k G) 0 1 4 7 8 σ h := (kseq (a := c13) (b := c7) rfl (fun σ h => n7_eq k σ h G)).trans (by kernel_rfl)
def l5 {R : Type} (k : Nat) (G : KT1 R) : Nat → GV → GV → GV → GV → GV → Heap → Option R
  | 0, _, _, _, _, _, _ => none
  | r + 1, v0, v1, v4, v7, v8, h => n6 k (fun x v0 v1 v4 v7 v8 h => kx x (l5 k G r v0 v1 v4 v7 v8 h) (G x v4 h)) v0 v1 v4 v7 v8 h
theorem l5_eq {R : Type} (k : Nat) (G : KT1 R) : ∀ (r : Nat) (σ : GS) (h : Heap), kloop (fun σ h K => KC k 19 c6 σ h K) r σ h (Q1 G 4) = l5 k G r (σ 0) (σ 1) (σ 4) (σ 7) (σ 8) h
  | 0, _, _ => rfl
  | r + 1, σ, h => (kloop_eq (fun σ h => l5_eq k G r σ h)).trans (n6_eq k σ h (fun x v0 v1 v4 v7 v8 h => kx x (l5 k G r v0 v1 v4 v7 v8 h) (G x v4 h)))
@[simp] def n5 (G : KT1 R) (v0 v1 v4 v7 v8 : GV) (h : Heap) := l5 k G k v0 v1 v4 v7 v8 h
theorem n5_eq (G : KT1 R) : KC k 19 c5 σ h (Q1 G 4) = W5 (n5 k G) 0 1 4 7 8 σ h := (kloopc_eq (a := c6) rfl).trans (l5_eq k G k σ h)
@[simp] def n4 (G : KT1 R) (v0 v1 v4 v7 v8 : GV) (h : Heap) := n5 k (fun x v4 h => kb 0 x fun x => G x v4 h) v0 v1 v4 v7 v8 h
theorem n4_eq (G : KT1 R) : KC k 19 c4 σ h (Q1 G 4) = W5 (n4 k G) 0 1 4 7 8 σ h := (kblock_eq (a := c5) rfl).trans (n5_eq k σ h (fun x v4 h => kb 0 x fun x => G x v4 h))
noncomputable def c14 := cL c3
@[simp] def n3 (G : KT1 R) (v0 v1 v4 : GV) (h : Heap) := (klen v0).bind fun v7 => n4 k G v0 v1 v4 v7 (.int .i64 0) h
theorem n3_eq (G : KT1 R) : KC k 19 c3 σ h (Q1 G 4) = W3 (n3 k G) 0 1 4 σ h := (kseq (a := c14) (b := c4) rfl (fun σ h => n4_eq k σ h G)).trans (by kernel_rfl)
@[simp] def n1 (G : KT1 R) (v0 v1 v4 : GV) (h : Heap) := n3 k (fun x v4 h => kx x (n2 k G h) (G x v4 h)) v0 v1 v4 h
theorem n1_eq (G : KT1 R) : KC k 19 c1 σ h (Q1 G 4) = W3 (n1 k G) 0 1 4 σ h := (kseq (b := c2) rfl (fun σ h => n2_eq k σ h G)).trans (n3_eq k σ h (fun x v4 h => kx x (n2 k G h) (G x v4 h)))
noncomputable def c15 := cL c0
@[simp] def n0 (G : KT1 R) (v0 v1 : GV) (h : Heap) := n1 k G v0 v1 (.int .i64 0) h
theorem n0_eq (G : KT1 R) : KC k 19 c0 σ h (Q1 G 4) = W2 (n0 k G) 0 1 σ h := (kseq (a := c15) (b := c1) rfl (fun σ h => n1_eq k σ h G)).trans (by kernel_rfl)
def run {R : Type} (k : Nat) (a0 a1 : GV) (h : Heap) (fin : GV → Heap → Option R) : Option R := n0 k (fun x v4 h => kend x (fin v4 h)) a0 a1 h
theorem gives {k : Nat} {a0 a1 : GV} {v : GV} (e : run k a0 a1 [] finN = some v) : NN fn.slices_IndexFunc_int64 [a0, a1] = some v := nω_of (by kernel_rfl) (((kfun_eq (nt := 19) (c := c0) (show PP.funcs[fn.slices_IndexFunc_int64]? = some Try.f212 by kernel_rfl) (by kernel_rfl) (by kernel_rfl) (fun x σ h => by cases x <;> kernel_rfl)).trans (n0_eq k _ [] _)).trans e)
end S.slices_IndexFunc_int64
namespace S.slices_IndexFunc_string
noncomputable def c0 := bodyOf Try.f246
noncomputable def c1 := cR c0
noncomputable def c2 := cR c1
@[simp] def n2 {R : Type} (k : Nat) (G : KT1 R) (h : Heap) := G .ret (.int .i64 (-1)) h
theorem n2_eq (G : KT1 R) : KC k 19 c2 σ h (Q1 G 4) = n2 k G h := by kernel_rfl
noncomputable def c3 := cL c1
noncomputable def c4 := cR c3
noncomputable def c5 := cL c4
noncomputable def c6 := cL c5
noncomputable def c7 := cR c6
noncomputable def c8 := cR c7
noncomputable def c9 := cR c8
@[simp] def n9 {R : Type} (k : Nat) (G : KT5 R) (v0 v1 v4 v7 v8 : GV) (h : Heap) := (kbin .add v8 (.int .i64 1)).bind fun v18 => G .nrm v0 v1 v4 v7 v18 h
theorem n9_eq (G : KT5 R) : KC k 19 c9 σ h (Q5 G 0 1 4 7 8) = W5 (n9 k G) 0 1 4 7 8 σ h := by kernel_rfl
noncomputable def c10 := cL c8
noncomputable def c11 := cL c10
@[simp] def n11 {R : Type} (k : Nat) (G : KT5 R) (v0 v1 v4 v7 v8 : GV) (h : Heap) := (kia 1 v0 v8).bind fun v14 => (kload1 h v14).bind fun v15 => kval v1 [v15] h fun v16 h => kcond v16 (G .ret v0 v1 v8 v7 v8 h) (G .nrm v0 v1 v4 v7 v8 h)
theorem n11_eq (G : KT5 R) : KC k 19 c11 σ h (Q5 G 0 1 4 7 8) = W5 (n11 k G) 0 1 4 7 8 σ h := by kernel_rfl
@[simp] def n10 (G : KT5 R) (v0 v1 v4 v7 v8 : GV) (h : Heap) := n11 k (fun x v0 v1 v4 v7 v8 h => kb 1 x fun x => G x v0 v1 v4 v7 v8 h) v0 v1 v4 v7 v8 h
theorem n10_eq (G : KT5 R) : KC k 19 c10 σ h (Q5 G 0 1 4 7 8) = W5 (n10 k G) 0 1 4 7 8 σ h := (kblock_eq (a := c11) rfl).trans (n11_eq k σ h (fun x v0 v1 v4 v7 v8 h => kb 1 x fun x => G x v0 v1 v4 v7 v8 h))
@[simp] def n8 (G : KT5 R) (v0 v1 v4 v7 v8 : GV) (h : Heap) := n10 k (fun x v0 v1 v4 v7 v8 h => kx x (n9 k G v0 v1 v4 v7 v8 h) (G x v0 v1 v4 v7 v8 h)) v0 v1 v4 v7 v8 h
theorem n8_eq (G : KT5 R) : KC k 19 c8 σ h (Q5 G 0 1 4 7 8) = W5 (n8 k G) 0 1 4 7 8 σ h := (kseq (b := c9) rfl (fun σ h => n9_eq k σ h G)).trans (n10_eq k σ h (fun x v0 v1 v4 v7 v8 h => kx x (n9 k G v0 v1 v4 v7 v8 h) (G x v0 v1 v4 v7 v8 h)))
noncomputable def c12 := cL c7
@[simp] def n7 (G : KT5 R) (v0 v1 v4 v7 v8 v9 : GV) (h : Heap) := kcond v9 (n8 k G v0 v1 v4 v7 v8 h) (G (.ext 0) v0 v1 v4 v7 v8 h)
theorem n7_eq (G : KT5 R) : KC k 19 c7 σ h (Q5 G 0 1 4 7 8) = W6 (n7 k G) 0 1 4 7 8 9 σ h := (kseq (a := c12) (b := c8) rfl (fun σ h => n8_eq k σ h G)).trans (by kernel_rfl)
noncomputable def c13 := cL c6
@[simp] def n6 (G : KT5 R) (v0 v1 v4 v7 v8 : GV) (h : Heap) := (kbin .lss v8 v7).bind fun v9 => n7 k G v0 v1 v4 v7 v8 v9 h
theorem n6_eq (G : KT5 R) : KC k 19 c6 σ h (Q5 G 0 1 4 7 8) = W5 (n6 k G) 0 1 4 7 8 σ h := (kseq (a := c13) (b := c7) rfl (fun σ h => n7_eq k σ h G)).trans (by kernel_rfl)
def l5 {R : Type} (k : Nat) (G : KT1 R) : Nat → GV → GV → GV → GV → GV → Heap → Option R
  | 0, _, _, _, _, _, _ => none
  | r + 1, v0, v1, v4, v7, v8, h => n6 k (fun x v0 v1 v4 v7 v8 h => kx x (l5 k G r v0 v1 v4 v7 v8 h) (G x v4 h)) v0 v1 v4 v7 v8 h
theorem l5_eq {R : Type} (k : Nat) (G : KT1 R) : ∀ (r : Nat) (σ : GS) (h : Heap), kloop (fun σ h K => KC k 19 c6 σ h K) r σ h (Q1 G 4) = l5 k G r (σ 0) (σ 1) (σ 4) (σ 7) (σ 8) h
  | 0, _, _ => rfl
  | r + 1, σ, h => (kloop_eq (fun σ h => l5_eq k G r σ h)).trans (n6_eq k σ h (fun x v0 v1 v4 v7 v8 h => kx x (l5 k G r v0 v1 v4 v7 v8 h) (G x v4 h)))
@[simp] def n5 (G : KT1 R) (v0 v1 v4 v7 v8 : GV) (h : Heap) := l5 k G k v0 v1 v4 v7 v8 h
theorem n5_eq (G : KT1 R) : KC k 19 c5 σ h (Q1 G 4) = W5 (n5 k G) 0 1 4 7 8 σ h := (kloopc_eq (a := c6) rfl).trans (l5_eq k G k σ h)
@[simp] def n4 (G : KT1 R) (v0 v1 v4 v7 v8 : GV) (h : Heap) := n5 k (fun x v4 h => kb 0 x fun x => G x v4 h) v0 v1 v4 v7 v8 h
theorem n4_eq (G : KT1 R) : KC k 19 c4 σ h (Q1 G 4) = W5 (n4 k G) 0 1 4 7 8 σ h := (kblock_eq (a := c5) rfl).trans (n5_eq k σ h (fun x v4 h => kb 0 x fun x => G x v4 h))
noncomputable def c14 := cL c3
@[simp] def n3 (G : KT1 R) (v0 v1 v4 : GV) (h : Heap) := (klen v0).bind fun v7 => n4 k G v0 v1 v4 v7 (.int .i64 0) h
theorem n3_eq (G : KT1 R) : KC k 19 c3 σ h (Q1 G 4) = W3 (n3 k G) 0 1 4 σ h := (kseq (a := c14) (b := c4) rfl (fun σ h => n4_eq k σ h G)).trans (by kernel_rfl)
@[simp] def n1 (G : KT1 R) (v0 v1 v4 : GV) (h : Heap) := n3 k (fun x v4 h => kx x (n2 k G h) (G x v4 h)) v0 v1 v4 h
theorem n1_eq (G : KT1 R) : KC k 19 c1 σ h (Q1 G 4) = W3 (n1 k G) 0 1 4 σ h := (kseq (b := c2) rfl (fun σ h => n2_eq k σ h G)).trans (n3_eq k σ h (fun x v4 h => kx x (n2 k G h) (G x v4 h)))
noncomputable def c15 := cL c0
@[simp] def n0 (G : KT1 R) (v0 v1 : GV) (h : Heap) := n1 k G v0 v1 (.int .i64 0) h
theorem n0_eq (G : KT1 R) : KC k 19 c0 σ h (Q1 G 4) = W2 (n0 k G) 0 1 σ h := (kseq (a := c15) (b := c1) rfl (fun σ h => n1_eq k σ h G)).trans (by kernel_rfl)
def run {R : Type} (k : Nat) (a0 a1 : GV) (h : Heap) (fin : GV → Heap → Option R) : Option R := n0 k (fun x v4 h => kend x (fin v4 h)) a0 a1 h
theorem gives {k : Nat} {a0 a1 : GV} {v : GV} (e : run k a0 a1 [] finN = some v) : NN fn.slices_IndexFunc_string [a0, a1] = some v := nω_of (by kernel_rfl) (((kfun_eq (nt := 19) (c := c0) (show PP.funcs[fn.slices_IndexFunc_string]? = some Try.f246 by kernel_rfl) (by kernel_rfl) (by kernel_rfl) (fun x σ h => by cases x <;> kernel_rfl)).trans (n0_eq k _ [] _)).trans e)
end S.slices_IndexFunc_string
namespace S.cmp_Less_int64
noncomputable def c0 := bodyOf Try.f247
noncomputable def c1 := cR c0
noncomputable def c2 := cR c1
@[simp] def n2 {R : Type} (k : Nat) (G : KT1 R) (v4 : GV) (h : Heap) := G .ret v4 h
theorem n2_eq (G : KT1 R) : KC k 17 c2 σ h (Q1 G 4) = n2 k G (σ 4) h := by kernel_rfl
noncomputable def c3 := cL c1
noncomputable def o3 : Array Oper := cO c3
@[simp] def g3_4 {R : Type} (k : Nat) (G : KT1 R) (v12 v15 : GV) (h : Heap) := (kpick v12 (.bool true) v15).bind fun v16 => G .nrm v16 h
theorem g3_4_eq (G : KT1 R) : kgroups PP cfg NN HH 17 o3 [(none, [11, 12])] σ h (fun σ h => G .nrm (σ 4) h) = W2 (g3_4 k G) 12 15 σ h := by kernel_rfl
@[simp] def g3_3 (G : KT1 R) (v0 v1 v12 : GV) (h : Heap) := bif tr false v12 then (kbin .lss v0 v1).bind fun v15 => g3_4 k G v12 v15 h else g3_4 k G v12 .un h
theorem g3_3_eq (G : KT1 R) : kgroups PP cfg NN HH 17 o3 [(some (7, false), [8, 9, 10]), (none, [11, 12])] σ h (fun σ h => G .nrm (σ 4) h) = W3 (g3_3 k G) 0 1 12 σ h := (kgroups_cons (fun σ h => g3_4_eq k σ h G)).trans (by kernel_rfl)
@[simp] def g3_2 (G : KT1 R) (v0 v1 v7 v10 : GV) (h : Heap) := (kpick v7 v10 (.bool false)).bind fun v11 => g3_3 k G v0 v1 v11 h
theorem g3_2_eq (G : KT1 R) : kgroups PP cfg NN HH 17 o3 [(none, [6, 7]), (some (7, false), [8, 9, 10]), (none, [11, 12])] σ h (fun σ h => G .nrm (σ 4) h) = W4 (g3_2 k G) 0 1 7 10 σ h := (kgroups_cons (fun σ h => g3_3_eq k σ h G)).trans (by kernel_rfl)
@[simp] def g3_1 (G : KT1 R) (v0 v1 v7 : GV) (h : Heap) := bif tr true v7 then (kN NN fn.cmp_isNaN_int64 [v1] h).bind fun v9 => (kun .not v9).bind fun v10 => g3_2 k G v0 v1 v7 v10 h else g3_2 k G v0 v1 v7 .un h
theorem g3_1_eq (G : KT1 R) : kgroups PP cfg NN HH 17 o3 [(some (2, true), [3, 4, 5]), (none, [6, 7]), (some (7, false), [8, 9, 10]), (none, [11, 12])] σ h (fun σ h => G .nrm (σ 4) h) = W3 (g3_1 k G) 0 1 7 σ h := (kgroups_cons (fun σ h => g3_2_eq k σ h G)).trans (by kernel_rfl)
@[simp] def g3_0 (G : KT1 R) (v0 v1 : GV) (h : Heap) := (kN NN fn.cmp_isNaN_int64 [v0] h).bind fun v6 => g3_1 k G v0 v1 v6 h
theorem g3_0_eq (G : KT1 R) : kgroups PP cfg NN HH 17 o3 [(none, [0, 1, 2]), (some (2, true), [3, 4, 5]), (none, [6, 7]), (some (7, false), [8, 9, 10]), (none, [11, 12])] σ h (fun σ h => G .nrm (σ 4) h) = W2 (g3_0 k G) 0 1 σ h := (kgroups_cons (fun σ h => g3_1_eq k σ h G)).trans (by kernel_rfl)
@[simp] def n3 (G : KT1 R) (v0 v1 : GV) (h : Heap) := g3_0 k G v0 v1 h
theorem n3_eq (G : KT1 R) : KC k 17 c3 σ h (Q1 G 4) = W2 (n3 k G) 0 1 σ h := (kregion_eq (id := 1) (draw := false) (ops := o3) (gs := [(none, [0, 1, 2]), (some (2, true), [3, 4, 5]), (none, [6, 7]), (some (7, false), [8, 9, 10]), (none, [11, 12])]) (by kernel_rfl) (by kernel_rfl) (by kernel_rfl)).trans (g3_0_eq k σ h G)
@[simp] def n1 (G : KT1 R) (v0 v1 : GV) (h : Heap) := n3 k (fun x v4 h => kx x (n2 k G v4 h) (G x v4 h)) v0 v1 h
theorem n1_eq (G : KT1 R) : KC k 17 c1 σ h (Q1 G 4) = W2 (n1 k G) 0 1 σ h := (kseq (b := c2) rfl (fun σ h => n2_eq k σ h G)).trans (n3_eq k σ h (fun x v4 h => kx x (n2 k G v4 h) (G x v4 h)))
noncomputable def c4 := cL c0
@[simp] def n0 (G : KT1 R) (v0 v1 : GV) (h : Heap) := n1 k G v0 v1 h
theorem n0_eq (G : KT1 R) : KC k 17 c0 σ h (Q1 G 4) = W2 (n0 k G) 0 1 σ h := (kseq (a := c4) (b := c1) rfl (fun σ h => n1_eq k σ h G)).trans (by kernel_rfl)
def run {R : Type} (k : Nat) (a0 a1 : GV) (h : Heap) (fin : GV → Heap → Option R) : Option R := n0 k (fun x v4 h => kend x (fin v4 h)) a0 a1 h
theorem gives {k : Nat} {a0 a1 : GV} {v : GV} (e : run k a0 a1 [] finN = some v) : NN fn.cmp_Less_int64 [a0, a1] = some v := nω_of (by kernel_rfl) (((kfun_eq (nt := 17) (c := c0) (show PP.funcs[fn.cmp_Less_int64]? = some Try.f247 by kernel_rfl) (by kernel_rfl) (by kernel_rfl) (fun x σ h => by cases x <;> kernel_rfl)).trans (n0_eq k _ [] _)).trans e)
end S.cmp_Less_int64
namespace S.cmp_isNaN_int64
noncomputable def c0 := bodyOf Try.f276
@[simp] def n0 {R : Type} (k : Nat) (G : KT1 R) (v0 : GV) (h : Heap) := (kbin .neq v0 v0).bind fun v5 => G .ret v5 h
theorem n0_eq (G : KT1 R) : KC k 6 c0 σ h (Q1 G 2) = n0 k G (σ 0) h := by kernel_rfl
def run {R : Type} (k : Nat) (a0 : GV) (h : Heap) (fin : GV → Heap → Option R) : Option R := n0 k (fun x v2 h => kend x (fin v2 h)) a0 h
theorem gives {k : Nat} {a0 : GV} {v : GV} (e : run k a0 [] finN = some v) : NN fn.cmp_isNaN_int64 [a0] = some v := nω_of (by kernel_rfl) (((kfun_eq (nt := 6) (c := c0) (show PP.funcs[fn.cmp_isNaN_int64]? = some Try.f276 by kernel_rfl) (by kernel_rfl) (by kernel_rfl) (fun x σ h => by cases x <;> kernel_rfl)).trans (n0_eq k _ [] _)).trans e)
end S.cmp_isNaN_int64
end
end Go.Proofs.Ytlbnioapepelnaa.G
