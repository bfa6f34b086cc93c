/- What these functions do, told for open values, out of the machine with continuations. Printed by a program of this session. -/
import Derived.Test.YtopmnigfklgnkaaSA0
import Derived.KernelRfl
namespace Go.Proofs.Ytopmnigfklgnkaa.G
open Go.RowKit
set_option linter.unusedVariables false
set_option maxRecDepth 100000
noncomputable section
/-! spec_ChainOk -/
namespace S.spec_ChainOk
noncomputable def c0 : Code := bodyOf Try.f35
noncomputable def c1 : Code := cR c0
noncomputable def c2 : Code := cR c1
noncomputable def c3 : Code := cR c2
noncomputable def c4 : Code := cR c3
@[simp] def n4 {R : Type} (k : Nat) (G : KT1 R) (h : Heap) : Option R := G .ret (.bool true) h
theorem n4_eq {R : Type} (k : Nat) (G : KT1 R) (σ : GS) (h : Heap) : KC k 141 c4 σ h (fun x σ h => G x (σ 2) h) = n4 k G h := by kernel_rfl
noncomputable def c5 : Code := cL c3
noncomputable def c6 : Code := cR c5
noncomputable def c7 : Code := cL c6
noncomputable def c8 : Code := cL c7
noncomputable def c9 : Code := cR c8
noncomputable def c10 : Code := cR c9
@[simp] def n10 {R : Type} (k : Nat) (G : KT4 R) (v1 v2 v3 v4 : GV) (h : Heap) : Option R := (kbin .add v4 (.int .i64 1)).bind fun v39 => G .nrm v1 v2 v3 v39 h
theorem n10_eq {R : Type} (k : Nat) (G : KT4 R) (σ : GS) (h : Heap) : KC k 141 c10 σ h (fun x σ h => G x (σ 1) (σ 2) (σ 3) (σ 4) h) = n10 k G (σ 1) (σ 2) (σ 3) (σ 4) h := by kernel_rfl
noncomputable def c11 : Code := cL c9
noncomputable def c12 : Code := cL c11
noncomputable def c13 : Code := cR c12
noncomputable def c14 : Code := cR c13
noncomputable def c15 : Code := cR c14
noncomputable def c16 : Code := cR c15
noncomputable def c17 : Code := cR c16
noncomputable def c18 : Code := cR c17
noncomputable def c19 : Code := cR c18
noncomputable def c20 : Code := cR c19
noncomputable def c21 : Code := cL c20
noncomputable def c22 : Code := cL c21
noncomputable def c23 : Code := cR c22
noncomputable def c24 : Code := cR c23
@[simp] def n24 {R : Type} (k : Nat) (G : KT7 R) (v1 v2 v3 v4 v7 v8 v9 : GV) (h : Heap) : Option R := (kbin .add v9 (.int .i64 1)).bind fun v119 => G .nrm v1 v2 v3 v4 v7 v8 v119 h
theorem n24_eq {R : Type} (k : Nat) (G : KT7 R) (σ : GS) (h : Heap) : KC k 141 c24 σ h (fun x σ h => G x (σ 1) (σ 2) (σ 3) (σ 4) (σ 7) (σ 8) (σ 9) h) = n24 k G (σ 1) (σ 2) (σ 3) (σ 4) (σ 7) (σ 8) (σ 9) h := by kernel_rfl
noncomputable def c25 : Code := cL c23
noncomputable def c26 : Code := cL c25
@[simp] def n26 {R : Type} (k : Nat) (G : KT7 R) (v1 v2 v3 v4 v7 v8 v9 : GV) (h : Heap) : Option R := (kfa 2 v1).bind fun v120 => (kload1 h v120).bind fun v121 => (kia 1 v121 v4).bind fun v123 => (kload1 h v123).bind fun v124 => (kia 1 v124 v9).bind fun v126 => (kload1 h v126).bind fun v127 => (kfa 1 v7).bind fun v129 => (kload1 h v129).bind fun v130 => (kN NN fn.spec_l1In [v127, v8, v130] h).bind fun v131 => (kun .not v131).bind fun v132 => kcond v132 (G .ret v1 (.bool false) v3 v4 v7 v8 v9 h) ((kfa 2 v1).bind fun v133 => (kload1 h v133).bind fun v134 => (kia 1 v134 v4).bind fun v136 => (kload1 h v136).bind fun v137 => (kia 1 v137 v9).bind fun v139 => (kload1 h v139).bind fun v140 => G .nrm v1 v2 v3 v4 v7 v140 v9 h)
theorem n26_eq {R : Type} (k : Nat) (G : KT7 R) (σ : GS) (h : Heap) : KC k 141 c26 σ h (fun x σ h => G x (σ 1) (σ 2) (σ 3) (σ 4) (σ 7) (σ 8) (σ 9) h) = n26 k G (σ 1) (σ 2) (σ 3) (σ 4) (σ 7) (σ 8) (σ 9) h := by kernel_rfl
@[simp] def n25 {R : Type} (k : Nat) (G : KT7 R) (v1 v2 v3 v4 v7 v8 v9 : GV) (h : Heap) : Option R := n26 k (fun x v1 v2 v3 v4 v7 v8 v9 h => kb 5 x fun x => G x v1 v2 v3 v4 v7 v8 v9 h) v1 v2 v3 v4 v7 v8 v9 h
theorem n25_eq {R : Type} (k : Nat) (G : KT7 R) (σ : GS) (h : Heap) : KC k 141 c25 σ h (fun x σ h => G x (σ 1) (σ 2) (σ 3) (σ 4) (σ 7) (σ 8) (σ 9) h) = n25 k G (σ 1) (σ 2) (σ 3) (σ 4) (σ 7) (σ 8) (σ 9) h := (kblock_eq (a := c26) rfl).trans (n26_eq k (fun x v1 v2 v3 v4 v7 v8 v9 h => kb 5 x fun x => G x v1 v2 v3 v4 v7 v8 v9 h) σ h)
@[simp] def n23 {R : Type} (k : Nat) (G : KT7 R) (v1 v2 v3 v4 v7 v8 v9 : GV) (h : Heap) : Option R := n25 k (fun x v1 v2 v3 v4 v7 v8 v9 h => kx x (n24 k G v1 v2 v3 v4 v7 v8 v9 h) (G x v1 v2 v3 v4 v7 v8 v9 h)) v1 v2 v3 v4 v7 v8 v9 h
theorem n23_eq {R : Type} (k : Nat) (G : KT7 R) (σ : GS) (h : Heap) : KC k 141 c23 σ h (fun x σ h => G x (σ 1) (σ 2) (σ 3) (σ 4) (σ 7) (σ 8) (σ 9) h) = n23 k G (σ 1) (σ 2) (σ 3) (σ 4) (σ 7) (σ 8) (σ 9) h := (kseq (b := c24) rfl (fun σ h => n24_eq k G σ h)).trans (n25_eq k (fun x v1 v2 v3 v4 v7 v8 v9 h => kx x (n24 k G v1 v2 v3 v4 v7 v8 v9 h) (G x v1 v2 v3 v4 v7 v8 v9 h)) σ h)
noncomputable def c27 : Code := cL c22
@[simp] def n22 {R : Type} (k : Nat) (G : KT7 R) (v1 v2 v3 v4 v7 v8 v9 : GV) (h : Heap) : Option R := (kfa 2 v1).bind fun v111 => (kload1 h v111).bind fun v112 => (kia 1 v112 v4).bind fun v114 => (kload1 h v114).bind fun v115 => (klen v115).bind fun v116 => (kbin .lss v9 v116).bind fun v117 => kcond v117 (n23 k G v1 v2 v3 v4 v7 v8 v9 h) (G (.ext 4) v1 v2 v3 v4 v7 v8 v9 h)
theorem n22_eq0 {R : Type} (k : Nat) (G : KT7 R) (σ : GS) (h : Heap) : KC k 141 c27 σ h (fun x σ h => kx x (n23 k G (σ 1) (σ 2) (σ 3) (σ 4) (σ 7) (σ 8) (σ 9) h) (G x (σ 1) (σ 2) (σ 3) (σ 4) (σ 7) (σ 8) (σ 9) h)) = n22 k G (σ 1) (σ 2) (σ 3) (σ 4) (σ 7) (σ 8) (σ 9) h := by kernel_rfl
theorem n22_eq {R : Type} (k : Nat) (G : KT7 R) (σ : GS) (h : Heap) : KC k 141 c22 σ h (fun x σ h => G x (σ 1) (σ 2) (σ 3) (σ 4) (σ 7) (σ 8) (σ 9) h) = n22 k G (σ 1) (σ 2) (σ 3) (σ 4) (σ 7) (σ 8) (σ 9) h := (kseq (b := c23) rfl (fun σ h => n23_eq k G σ h)).trans (n22_eq0 k G σ h)
def l21 {R : Type} (k : Nat) (G : KT4 R) : Nat → GV → GV → GV → GV → GV → GV → GV → Heap → Option R
  | 0, _, _, _, _, _, _, _, _ => none
  | r + 1, v1, v2, v3, v4, v7, v8, v9, h => n22 k (fun x v1 v2 v3 v4 v7 v8 v9 h => kx x (l21 k G r v1 v2 v3 v4 v7 v8 v9 h) (G x v1 v2 v3 v4 h)) v1 v2 v3 v4 v7 v8 v9 h
theorem l21_eq {R : Type} (k : Nat) (G : KT4 R) : ∀ (r : Nat) (σ : GS) (h : Heap), kloop (fun σ h K => KC k 141 c22 σ h K) r σ h (fun x σ h => G x (σ 1) (σ 2) (σ 3) (σ 4) h) = l21 k G r (σ 1) (σ 2) (σ 3) (σ 4) (σ 7) (σ 8) (σ 9) h
  | 0, _, _ => rfl
  | r + 1, σ, h => (kloop_eq (fun σ h => l21_eq k G r σ h)).trans (n22_eq k (fun x v1 v2 v3 v4 v7 v8 v9 h => kx x (l21 k G r v1 v2 v3 v4 v7 v8 v9 h) (G x v1 v2 v3 v4 h)) σ h)
@[simp] def n21 {R : Type} (k : Nat) (G : KT4 R) (v1 v2 v3 v4 v7 v8 v9 : GV) (h : Heap) : Option R := l21 k G k v1 v2 v3 v4 v7 v8 v9 h
theorem n21_eq {R : Type} (k : Nat) (G : KT4 R) (σ : GS) (h : Heap) : KC k 141 c21 σ h (fun x σ h => G x (σ 1) (σ 2) (σ 3) (σ 4) h) = n21 k G (σ 1) (σ 2) (σ 3) (σ 4) (σ 7) (σ 8) (σ 9) h := (kloopc_eq (a := c22) rfl).trans (l21_eq k G k σ h)
@[simp] def n20 {R : Type} (k : Nat) (G : KT4 R) (v1 v2 v3 v4 v7 v8 v9 : GV) (h : Heap) : Option R := n21 k (fun x v1 v2 v3 v4 h => kb 4 x fun x => G x v1 v2 v3 v4 h) v1 v2 v3 v4 v7 v8 v9 h
theorem n20_eq {R : Type} (k : Nat) (G : KT4 R) (σ : GS) (h : Heap) : KC k 141 c20 σ h (fun x σ h => G x (σ 1) (σ 2) (σ 3) (σ 4) h) = n20 k G (σ 1) (σ 2) (σ 3) (σ 4) (σ 7) (σ 8) (σ 9) h := (kblock_eq (a := c21) rfl).trans (n21_eq k (fun x v1 v2 v3 v4 h => kb 4 x fun x => G x v1 v2 v3 v4 h) σ h)
noncomputable def c28 : Code := cL c19
@[simp] def n19 {R : Type} (k : Nat) (G : KT4 R) (v1 v2 v3 v4 v7 v8 : GV) (h : Heap) : Option R := n20 k G v1 v2 v3 v4 v7 v8 (.int .i64 0) h
theorem n19_eq0 {R : Type} (k : Nat) (G : KT4 R) (σ : GS) (h : Heap) : KC k 141 c28 σ h (fun x σ h => kx x (n20 k G (σ 1) (σ 2) (σ 3) (σ 4) (σ 7) (σ 8) (σ 9) h) (G x (σ 1) (σ 2) (σ 3) (σ 4) h)) = n19 k G (σ 1) (σ 2) (σ 3) (σ 4) (σ 7) (σ 8) h := by kernel_rfl
theorem n19_eq {R : Type} (k : Nat) (G : KT4 R) (σ : GS) (h : Heap) : KC k 141 c19 σ h (fun x σ h => G x (σ 1) (σ 2) (σ 3) (σ 4) h) = n19 k G (σ 1) (σ 2) (σ 3) (σ 4) (σ 7) (σ 8) h := (kseq (b := c20) rfl (fun σ h => n20_eq k G σ h)).trans (n19_eq0 k G σ h)
noncomputable def c29 : Code := cL c18
@[simp] def n18 {R : Type} (k : Nat) (G : KT4 R) (v1 v2 v3 v4 v5 v7 : GV) (h : Heap) : Option R := (kfa 1 v5).bind fun v108 => (kload1 h v108).bind fun v109 => n19 k G v1 v2 v3 v4 v7 v109 h
theorem n18_eq0 {R : Type} (k : Nat) (G : KT4 R) (σ : GS) (h : Heap) : KC k 141 c29 σ h (fun x σ h => kx x (n19 k G (σ 1) (σ 2) (σ 3) (σ 4) (σ 7) (σ 8) h) (G x (σ 1) (σ 2) (σ 3) (σ 4) h)) = n18 k G (σ 1) (σ 2) (σ 3) (σ 4) (σ 5) (σ 7) h := by kernel_rfl
theorem n18_eq {R : Type} (k : Nat) (G : KT4 R) (σ : GS) (h : Heap) : KC k 141 c18 σ h (fun x σ h => G x (σ 1) (σ 2) (σ 3) (σ 4) h) = n18 k G (σ 1) (σ 2) (σ 3) (σ 4) (σ 5) (σ 7) h := (kseq (b := c19) rfl (fun σ h => n19_eq k G σ h)).trans (n18_eq0 k G σ h)
noncomputable def c30 : Code := cL c17
noncomputable def c31 : Code := cR c30
@[simp] def n31 {R : Type} (k : Nat) (G : KT6 R) (v1 v2 v3 v4 v5 v7 v107 : GV) (h : Heap) : Option R := kcond v107 (G .ret v1 (.bool false) v3 v4 v5 v7 h) (G .nrm v1 v2 v3 v4 v5 v7 h)
theorem n31_eq {R : Type} (k : Nat) (G : KT6 R) (σ : GS) (h : Heap) : KC k 141 c31 σ h (fun x σ h => G x (σ 1) (σ 2) (σ 3) (σ 4) (σ 5) (σ 7) h) = n31 k G (σ 1) (σ 2) (σ 3) (σ 4) (σ 5) (σ 7) (σ 107) h := by kernel_rfl
noncomputable def c32 : Code := cL c30
noncomputable def o32 : Array Oper := cO c32
@[simp] def g32_2 {R : Type} (k : Nat) (G : KT7 R) (v1 v2 v3 v4 v5 v7 v93 v106 : GV) (rs : List Rec) (h : Heap) : Option R := (kpick v93 (.bool true) v106).bind fun v107 => bif chk [(7, 16), (10, 12), (10, 15)] rs then G .nrm v1 v2 v3 v4 v5 v7 v107 h else none
theorem g32_2_eq {R : Type} (k : Nat) (G : KT7 R) (rs : List Rec) (σ : GS) (h : Heap) : kgroupsD PP cfg NN HH 141 o32 [(7, 16), (10, 12), (10, 15)] [(none, [19])] rs σ h (fun rs σ h => bif chk [(7, 16), (10, 12), (10, 15)] rs then G .nrm (σ 1) (σ 2) (σ 3) (σ 4) (σ 5) (σ 7) (σ 107) h else none) = g32_2 k G (σ 1) (σ 2) (σ 3) (σ 4) (σ 5) (σ 7) (σ 93) (σ 106) rs h := by kernel_rfl
@[simp] def g32_1 {R : Type} (k : Nat) (G : KT7 R) (v1 v2 v3 v4 v5 v7 v93 : GV) (rs : List Rec) (h : Heap) : Option R := bif tr false v93 then (kfa 0 v5).bind fun v94 => kold h fun h0 => (kload1 h v94).bind fun v95 => krs (rs ++ [⟨7, h0.length, h.length, ⟨kblk v94, []⟩⟩]) fun rs => (kfa 0 v7).bind fun v96 => (kload1 h v96).bind fun v97 => kold h fun h0 => (kF false HH fn.spec_l17Texts [v97] h).bind fun r => kr r fun v98 h => krs (rs ++ [⟨10, h0.length, h.length, ⟨[v97].flatMap (kborr h0), []⟩⟩]) fun rs => (kfa 1 v1).bind fun v99 => kold h fun h0 => (kload1 h v99).bind fun v100 => krs (rs ++ [⟨12, h0.length, h.length, ⟨kblk v99, []⟩⟩]) fun rs => (kia 1 v100 v4).bind fun v102 => kold h fun h0 => (kload1 h v102).bind fun v103 => krs (rs ++ [⟨15, h0.length, h.length, ⟨kblk v102, []⟩⟩]) fun rs => kold h fun h0 => (kapp [(.str { data := #[] })] 1 16 v98 v103 h).bind fun r => kr r fun v104 h => krs (rs ++ [⟨16, h0.length, h.length, ⟨kblk v98 ++ kblk v103, kblk v98⟩⟩]) fun rs => (kN NN fn.spec_l17Same [v95, v104] h).bind fun v105 => (kun .not v105).bind fun v106 => g32_2 k G v1 v2 v3 v4 v5 v7 v93 v106 rs h else g32_2 k G v1 v2 v3 v4 v5 v7 v93 .un rs h
theorem g32_1_eq0 {R : Type} (k : Nat) (G : KT7 R) (rs : List Rec) (σ : GS) (h : Heap) : kgroup1D PP cfg NN HH 141 o32 [(7, 16), (10, 12), (10, 15)] (some (5, false), [6, 7, 8, 9, 10, 11, 12, 13, 14, 15, 16, 17, 18]) rs σ h (fun rs σ h => g32_2 k G (σ 1) (σ 2) (σ 3) (σ 4) (σ 5) (σ 7) (σ 93) (σ 106) rs h) = g32_1 k G (σ 1) (σ 2) (σ 3) (σ 4) (σ 5) (σ 7) (σ 93) rs h := by kernel_rfl
theorem g32_1_eq {R : Type} (k : Nat) (G : KT7 R) (rs : List Rec) (σ : GS) (h : Heap) : kgroupsD PP cfg NN HH 141 o32 [(7, 16), (10, 12), (10, 15)] [(some (5, false), [6, 7, 8, 9, 10, 11, 12, 13, 14, 15, 16, 17, 18]), (none, [19])] rs σ h (fun rs σ h => bif chk [(7, 16), (10, 12), (10, 15)] rs then G .nrm (σ 1) (σ 2) (σ 3) (σ 4) (σ 5) (σ 7) (σ 107) h else none) = g32_1 k G (σ 1) (σ 2) (σ 3) (σ 4) (σ 5) (σ 7) (σ 93) rs h := (kgroupsD_cons (fun rs σ h => g32_2_eq k G rs σ h)).trans (g32_1_eq0 k G rs σ h)
@[simp] def g32_0 {R : Type} (k : Nat) (G : KT7 R) (v1 v2 v3 v4 v5 v7 : GV) (rs : List Rec) (h : Heap) : Option R := (kfa 1 v5).bind fun v88 => (kload1 h v88).bind fun v89 => (kfa 1 v7).bind fun v90 => (kload1 h v90).bind fun v91 => (kbin .gtr v89 v91).bind fun v92 => g32_1 k G v1 v2 v3 v4 v5 v7 v92 rs h
theorem g32_0_eq0 {R : Type} (k : Nat) (G : KT7 R) (rs : List Rec) (σ : GS) (h : Heap) : kgroup1D PP cfg NN HH 141 o32 [(7, 16), (10, 12), (10, 15)] (none, [0, 1, 2, 3, 4, 5]) rs σ h (fun rs σ h => g32_1 k G (σ 1) (σ 2) (σ 3) (σ 4) (σ 5) (σ 7) (σ 93) rs h) = g32_0 k G (σ 1) (σ 2) (σ 3) (σ 4) (σ 5) (σ 7) rs h := by kernel_rfl
theorem g32_0_eq {R : Type} (k : Nat) (G : KT7 R) (rs : List Rec) (σ : GS) (h : Heap) : kgroupsD PP cfg NN HH 141 o32 [(7, 16), (10, 12), (10, 15)] [(none, [0, 1, 2, 3, 4, 5]), (some (5, false), [6, 7, 8, 9, 10, 11, 12, 13, 14, 15, 16, 17, 18]), (none, [19])] rs σ h (fun rs σ h => bif chk [(7, 16), (10, 12), (10, 15)] rs then G .nrm (σ 1) (σ 2) (σ 3) (σ 4) (σ 5) (σ 7) (σ 107) h else none) = g32_0 k G (σ 1) (σ 2) (σ 3) (σ 4) (σ 5) (σ 7) rs h := (kgroupsD_cons (fun rs σ h => g32_1_eq k G rs σ h)).trans (g32_0_eq0 k G rs σ h)
@[simp] def n32 {R : Type} (k : Nat) (G : KT7 R) (v1 v2 v3 v4 v5 v7 : GV) (h : Heap) : Option R := g32_0 k G v1 v2 v3 v4 v5 v7 [] h
theorem n32_eq {R : Type} (k : Nat) (G : KT7 R) (σ : GS) (h : Heap) : KC k 141 c32 σ h (fun x σ h => G x (σ 1) (σ 2) (σ 3) (σ 4) (σ 5) (σ 7) (σ 107) h) = n32 k G (σ 1) (σ 2) (σ 3) (σ 4) (σ 5) (σ 7) h := (kregionD_eq (id := 18) (draw := true) (ops := o32) (gs := [(none, [0, 1, 2, 3, 4, 5]), (some (5, false), [6, 7, 8, 9, 10, 11, 12, 13, 14, 15, 16, 17, 18]), (none, [19])]) (bad := [(7, 16), (10, 12), (10, 15)]) (by kernel_rfl) (by kernel_rfl) (by kernel_rfl) (by kernel_rfl) (by kernel_rfl)).trans (g32_0_eq k G [] σ h)
@[simp] def n30 {R : Type} (k : Nat) (G : KT6 R) (v1 v2 v3 v4 v5 v7 : GV) (h : Heap) : Option R := n32 k (fun x v1 v2 v3 v4 v5 v7 v107 h => kx x (n31 k G v1 v2 v3 v4 v5 v7 v107 h) (G x v1 v2 v3 v4 v5 v7 h)) v1 v2 v3 v4 v5 v7 h
theorem n30_eq {R : Type} (k : Nat) (G : KT6 R) (σ : GS) (h : Heap) : KC k 141 c30 σ h (fun x σ h => G x (σ 1) (σ 2) (σ 3) (σ 4) (σ 5) (σ 7) h) = n30 k G (σ 1) (σ 2) (σ 3) (σ 4) (σ 5) (σ 7) h := (kseq (b := c31) rfl (fun σ h => n31_eq k G σ h)).trans (n32_eq k (fun x v1 v2 v3 v4 v5 v7 v107 h => kx x (n31 k G v1 v2 v3 v4 v5 v7 v107 h) (G x v1 v2 v3 v4 v5 v7 h)) σ h)
@[simp] def n17 {R : Type} (k : Nat) (G : KT4 R) (v1 v2 v3 v4 v5 v7 : GV) (h : Heap) : Option R := n30 k (fun x v1 v2 v3 v4 v5 v7 h => kx x (n18 k G v1 v2 v3 v4 v5 v7 h) (G x v1 v2 v3 v4 h)) v1 v2 v3 v4 v5 v7 h
theorem n17_eq {R : Type} (k : Nat) (G : KT4 R) (σ : GS) (h : Heap) : KC k 141 c17 σ h (fun x σ h => G x (σ 1) (σ 2) (σ 3) (σ 4) h) = n17 k G (σ 1) (σ 2) (σ 3) (σ 4) (σ 5) (σ 7) h := (kseq (b := c18) rfl (fun σ h => n18_eq k G σ h)).trans (n30_eq k (fun x v1 v2 v3 v4 v5 v7 h => kx x (n18 k G v1 v2 v3 v4 v5 v7 h) (G x v1 v2 v3 v4 h)) σ h)
noncomputable def c33 : Code := cL c16
@[simp] def n16 {R : Type} (k : Nat) (G : KT4 R) (v1 v2 v3 v4 v5 : GV) (h : Heap) : Option R := (kfa 0 v1).bind fun v82 => (kload1 h v82).bind fun v83 => (kbin .add v4 (.int .i64 1)).bind fun v85 => (kia 2 v83 v85).bind fun v86 => (kloadA 2 h v86).bind fun v87 => kalloc [.nils, (.int .i64 0)] h fun v7 h => (kstore 2 h v7 v87).bind fun h => n17 k G v1 v2 v3 v4 v5 v7 h
theorem n16_eq0 {R : Type} (k : Nat) (G : KT4 R) (σ : GS) (h : Heap) : KC k 141 c33 σ h (fun x σ h => kx x (n17 k G (σ 1) (σ 2) (σ 3) (σ 4) (σ 5) (σ 7) h) (G x (σ 1) (σ 2) (σ 3) (σ 4) h)) = n16 k G (σ 1) (σ 2) (σ 3) (σ 4) (σ 5) h := by kernel_rfl
theorem n16_eq {R : Type} (k : Nat) (G : KT4 R) (σ : GS) (h : Heap) : KC k 141 c16 σ h (fun x σ h => G x (σ 1) (σ 2) (σ 3) (σ 4) h) = n16 k G (σ 1) (σ 2) (σ 3) (σ 4) (σ 5) h := (kseq (b := c17) rfl (fun σ h => n17_eq k G σ h)).trans (n16_eq0 k G σ h)
noncomputable def c34 : Code := cL c15
@[simp] def n15 {R : Type} (k : Nat) (G : KT4 R) (v1 v2 v3 v4 v5 : GV) (h : Heap) : Option R := (kbin .sub v3 (.int .i64 1)).bind fun v74 => (kbin .eql v4 v74).bind fun v75 => kcond v75 ((kfa 1 v5).bind fun v76 => (kload1 h v76).bind fun v77 => (kfa 0 v5).bind fun v78 => (kload1 h v78).bind fun v79 => (klen v79).bind fun v80 => (kbin .eql v77 v80).bind fun v81 => G .ret v1 v81 v3 v4 h) (n16 k G v1 v2 v3 v4 v5 h)
theorem n15_eq0 {R : Type} (k : Nat) (G : KT4 R) (σ : GS) (h : Heap) : KC k 141 c34 σ h (fun x σ h => kx x (n16 k G (σ 1) (σ 2) (σ 3) (σ 4) (σ 5) h) (G x (σ 1) (σ 2) (σ 3) (σ 4) h)) = n15 k G (σ 1) (σ 2) (σ 3) (σ 4) (σ 5) h := by kernel_rfl
theorem n15_eq {R : Type} (k : Nat) (G : KT4 R) (σ : GS) (h : Heap) : KC k 141 c15 σ h (fun x σ h => G x (σ 1) (σ 2) (σ 3) (σ 4) h) = n15 k G (σ 1) (σ 2) (σ 3) (σ 4) (σ 5) h := (kseq (b := c16) rfl (fun σ h => n16_eq k G σ h)).trans (n15_eq0 k G σ h)
noncomputable def c35 : Code := cL c14
noncomputable def c36 : Code := cR c35
noncomputable def c37 : Code := cL c36
noncomputable def c38 : Code := cL c37
noncomputable def c39 : Code := cR c38
noncomputable def c40 : Code := cR c39
@[simp] def n40 {R : Type} (k : Nat) (G : KT6 R) (v1 v2 v3 v4 v5 v6 : GV) (h : Heap) : Option R := (kbin .add v6 (.int .i64 1)).bind fun v64 => G .nrm v1 v2 v3 v4 v5 v64 h
theorem n40_eq {R : Type} (k : Nat) (G : KT6 R) (σ : GS) (h : Heap) : KC k 141 c40 σ h (fun x σ h => G x (σ 1) (σ 2) (σ 3) (σ 4) (σ 5) (σ 6) h) = n40 k G (σ 1) (σ 2) (σ 3) (σ 4) (σ 5) (σ 6) h := by kernel_rfl
noncomputable def c41 : Code := cL c39
noncomputable def c42 : Code := cL c41
@[simp] def n42 {R : Type} (k : Nat) (G : KT6 R) (v1 v2 v3 v4 v5 v6 : GV) (h : Heap) : Option R := (kfa 0 v5).bind fun v65 => (kload1 h v65).bind fun v66 => (kia 1 v66 v6).bind fun v68 => (kload1 h v68).bind fun v69 => (klenS v69).bind fun v70 => (kbin .gtr v70 (.int .i64 200)).bind fun v71 => kcond v71 (G .ret v1 (.bool false) v3 v4 v5 v6 h) (G .nrm v1 v2 v3 v4 v5 v6 h)
theorem n42_eq {R : Type} (k : Nat) (G : KT6 R) (σ : GS) (h : Heap) : KC k 141 c42 σ h (fun x σ h => G x (σ 1) (σ 2) (σ 3) (σ 4) (σ 5) (σ 6) h) = n42 k G (σ 1) (σ 2) (σ 3) (σ 4) (σ 5) (σ 6) h := by kernel_rfl
@[simp] def n41 {R : Type} (k : Nat) (G : KT6 R) (v1 v2 v3 v4 v5 v6 : GV) (h : Heap) : Option R := n42 k (fun x v1 v2 v3 v4 v5 v6 h => kb 3 x fun x => G x v1 v2 v3 v4 v5 v6 h) v1 v2 v3 v4 v5 v6 h
theorem n41_eq {R : Type} (k : Nat) (G : KT6 R) (σ : GS) (h : Heap) : KC k 141 c41 σ h (fun x σ h => G x (σ 1) (σ 2) (σ 3) (σ 4) (σ 5) (σ 6) h) = n41 k G (σ 1) (σ 2) (σ 3) (σ 4) (σ 5) (σ 6) h := (kblock_eq (a := c42) rfl).trans (n42_eq k (fun x v1 v2 v3 v4 v5 v6 h => kb 3 x fun x => G x v1 v2 v3 v4 v5 v6 h) σ h)
@[simp] def n39 {R : Type} (k : Nat) (G : KT6 R) (v1 v2 v3 v4 v5 v6 : GV) (h : Heap) : Option R := n41 k (fun x v1 v2 v3 v4 v5 v6 h => kx x (n40 k G v1 v2 v3 v4 v5 v6 h) (G x v1 v2 v3 v4 v5 v6 h)) v1 v2 v3 v4 v5 v6 h
theorem n39_eq {R : Type} (k : Nat) (G : KT6 R) (σ : GS) (h : Heap) : KC k 141 c39 σ h (fun x σ h => G x (σ 1) (σ 2) (σ 3) (σ 4) (σ 5) (σ 6) h) = n39 k G (σ 1) (σ 2) (σ 3) (σ 4) (σ 5) (σ 6) h := (kseq (b := c40) rfl (fun σ h => n40_eq k G σ h)).trans (n41_eq k (fun x v1 v2 v3 v4 v5 v6 h => kx x (n40 k G v1 v2 v3 v4 v5 v6 h) (G x v1 v2 v3 v4 v5 v6 h)) σ h)
noncomputable def c43 : Code := cL c38
@[simp] def n38 {R : Type} (k : Nat) (G : KT6 R) (v1 v2 v3 v4 v5 v6 : GV) (h : Heap) : Option R := (kfa 0 v5).bind fun v59 => (kload1 h v59).bind fun v60 => (klen v60).bind fun v61 => (kbin .lss v6 v61).bind fun v62 => kcond v62 (n39 k G v1 v2 v3 v4 v5 v6 h) (G (.ext 2) v1 v2 v3 v4 v5 v6 h)
theorem n38_eq0 {R : Type} (k : Nat) (G : KT6 R) (σ : GS) (h : Heap) : KC k 141 c43 σ h (fun x σ h => kx x (n39 k G (σ 1) (σ 2) (σ 3) (σ 4) (σ 5) (σ 6) h) (G x (σ 1) (σ 2) (σ 3) (σ 4) (σ 5) (σ 6) h)) = n38 k G (σ 1) (σ 2) (σ 3) (σ 4) (σ 5) (σ 6) h := by kernel_rfl
theorem n38_eq {R : Type} (k : Nat) (G : KT6 R) (σ : GS) (h : Heap) : KC k 141 c38 σ h (fun x σ h => G x (σ 1) (σ 2) (σ 3) (σ 4) (σ 5) (σ 6) h) = n38 k G (σ 1) (σ 2) (σ 3) (σ 4) (σ 5) (σ 6) h := (kseq (b := c39) rfl (fun σ h => n39_eq k G σ h)).trans (n38_eq0 k G σ h)
def l37 {R : Type} (k : Nat) (G : KT5 R) : Nat → GV → GV → GV → GV → GV → GV → Heap → Option R
  | 0, _, _, _, _, _, _, _ => none
  | r + 1, v1, v2, v3, v4, v5, v6, h => n38 k (fun x v1 v2 v3 v4 v5 v6 h => kx x (l37 k G r v1 v2 v3 v4 v5 v6 h) (G x v1 v2 v3 v4 v5 h)) v1 v2 v3 v4 v5 v6 h
theorem l37_eq {R : Type} (k : Nat) (G : KT5 R) : ∀ (r : Nat) (σ : GS) (h : Heap), kloop (fun σ h K => KC k 141 c38 σ h K) r σ h (fun x σ h => G x (σ 1) (σ 2) (σ 3) (σ 4) (σ 5) h) = l37 k G r (σ 1) (σ 2) (σ 3) (σ 4) (σ 5) (σ 6) h
  | 0, _, _ => rfl
  | r + 1, σ, h => (kloop_eq (fun σ h => l37_eq k G r σ h)).trans (n38_eq k (fun x v1 v2 v3 v4 v5 v6 h => kx x (l37 k G r v1 v2 v3 v4 v5 v6 h) (G x v1 v2 v3 v4 v5 h)) σ h)
@[simp] def n37 {R : Type} (k : Nat) (G : KT5 R) (v1 v2 v3 v4 v5 v6 : GV) (h : Heap) : Option R := l37 k G k v1 v2 v3 v4 v5 v6 h
theorem n37_eq {R : Type} (k : Nat) (G : KT5 R) (σ : GS) (h : Heap) : KC k 141 c37 σ h (fun x σ h => G x (σ 1) (σ 2) (σ 3) (σ 4) (σ 5) h) = n37 k G (σ 1) (σ 2) (σ 3) (σ 4) (σ 5) (σ 6) h := (kloopc_eq (a := c38) rfl).trans (l37_eq k G k σ h)
@[simp] def n36 {R : Type} (k : Nat) (G : KT5 R) (v1 v2 v3 v4 v5 v6 : GV) (h : Heap) : Option R := n37 k (fun x v1 v2 v3 v4 v5 h => kb 2 x fun x => G x v1 v2 v3 v4 v5 h) v1 v2 v3 v4 v5 v6 h
theorem n36_eq {R : Type} (k : Nat) (G : KT5 R) (σ : GS) (h : Heap) : KC k 141 c36 σ h (fun x σ h => G x (σ 1) (σ 2) (σ 3) (σ 4) (σ 5) h) = n36 k G (σ 1) (σ 2) (σ 3) (σ 4) (σ 5) (σ 6) h := (kblock_eq (a := c37) rfl).trans (n37_eq k (fun x v1 v2 v3 v4 v5 h => kb 2 x fun x => G x v1 v2 v3 v4 v5 h) σ h)
noncomputable def c44 : Code := cL c35
@[simp] def n35 {R : Type} (k : Nat) (G : KT5 R) (v1 v2 v3 v4 v5 : GV) (h : Heap) : Option R := n36 k G v1 v2 v3 v4 v5 (.int .i64 0) h
theorem n35_eq0 {R : Type} (k : Nat) (G : KT5 R) (σ : GS) (h : Heap) : KC k 141 c44 σ h (fun x σ h => kx x (n36 k G (σ 1) (σ 2) (σ 3) (σ 4) (σ 5) (σ 6) h) (G x (σ 1) (σ 2) (σ 3) (σ 4) (σ 5) h)) = n35 k G (σ 1) (σ 2) (σ 3) (σ 4) (σ 5) h := by kernel_rfl
theorem n35_eq {R : Type} (k : Nat) (G : KT5 R) (σ : GS) (h : Heap) : KC k 141 c35 σ h (fun x σ h => G x (σ 1) (σ 2) (σ 3) (σ 4) (σ 5) h) = n35 k G (σ 1) (σ 2) (σ 3) (σ 4) (σ 5) h := (kseq (b := c36) rfl (fun σ h => n36_eq k G σ h)).trans (n35_eq0 k G σ h)
@[simp] def n14 {R : Type} (k : Nat) (G : KT4 R) (v1 v2 v3 v4 v5 : GV) (h : Heap) : Option R := n35 k (fun x v1 v2 v3 v4 v5 h => kx x (n15 k G v1 v2 v3 v4 v5 h) (G x v1 v2 v3 v4 h)) v1 v2 v3 v4 v5 h
theorem n14_eq {R : Type} (k : Nat) (G : KT4 R) (σ : GS) (h : Heap) : KC k 141 c14 σ h (fun x σ h => G x (σ 1) (σ 2) (σ 3) (σ 4) h) = n14 k G (σ 1) (σ 2) (σ 3) (σ 4) (σ 5) h := (kseq (b := c15) rfl (fun σ h => n15_eq k G σ h)).trans (n35_eq k (fun x v1 v2 v3 v4 v5 h => kx x (n15 k G v1 v2 v3 v4 v5 h) (G x v1 v2 v3 v4 h)) σ h)
noncomputable def c45 : Code := cL c13
noncomputable def c46 : Code := cR c45
@[simp] def n46 {R : Type} (k : Nat) (G : KT5 R) (v1 v2 v3 v4 v5 v57 : GV) (h : Heap) : Option R := kcond v57 (G .ret v1 (.bool false) v3 v4 v5 h) (G .nrm v1 v2 v3 v4 v5 h)
theorem n46_eq {R : Type} (k : Nat) (G : KT5 R) (σ : GS) (h : Heap) : KC k 141 c46 σ h (fun x σ h => G x (σ 1) (σ 2) (σ 3) (σ 4) (σ 5) h) = n46 k G (σ 1) (σ 2) (σ 3) (σ 4) (σ 5) (σ 57) h := by kernel_rfl
noncomputable def c47 : Code := cL c45
noncomputable def o47 : Array Oper := cO c47
@[simp] def g47_2 {R : Type} (k : Nat) (G : KT6 R) (v1 v2 v3 v4 v5 v49 v56 : GV) (h : Heap) : Option R := (kpick v49 (.bool true) v56).bind fun v57 => G .nrm v1 v2 v3 v4 v5 v57 h
theorem g47_2_eq {R : Type} (k : Nat) (G : KT6 R) (σ : GS) (h : Heap) : kgroups PP cfg NN HH 141 o47 [(none, [12])] σ h (fun σ h => G .nrm (σ 1) (σ 2) (σ 3) (σ 4) (σ 5) (σ 57) h) = g47_2 k G (σ 1) (σ 2) (σ 3) (σ 4) (σ 5) (σ 49) (σ 56) h := by kernel_rfl
@[simp] def g47_1 {R : Type} (k : Nat) (G : KT6 R) (v1 v2 v3 v4 v5 v49 : GV) (h : Heap) : Option R := bif tr false v49 then (kfa 1 v5).bind fun v50 => (kload1 h v50).bind fun v51 => (kfa 0 v5).bind fun v52 => (kload1 h v52).bind fun v53 => (klen v53).bind fun v54 => (kN NN fn.spec_l1In [v51, (.int .i64 0), v54] h).bind fun v55 => (kun .not v55).bind fun v56 => g47_2 k G v1 v2 v3 v4 v5 v49 v56 h else g47_2 k G v1 v2 v3 v4 v5 v49 .un h
theorem g47_1_eq0 {R : Type} (k : Nat) (G : KT6 R) (σ : GS) (h : Heap) : kgroup1 PP cfg NN HH 141 o47 (some (4, false), [5, 6, 7, 8, 9, 10, 11]) σ h (fun σ h => g47_2 k G (σ 1) (σ 2) (σ 3) (σ 4) (σ 5) (σ 49) (σ 56) h) = g47_1 k G (σ 1) (σ 2) (σ 3) (σ 4) (σ 5) (σ 49) h := by kernel_rfl
theorem g47_1_eq {R : Type} (k : Nat) (G : KT6 R) (σ : GS) (h : Heap) : kgroups PP cfg NN HH 141 o47 [(some (4, false), [5, 6, 7, 8, 9, 10, 11]), (none, [12])] σ h (fun σ h => G .nrm (σ 1) (σ 2) (σ 3) (σ 4) (σ 5) (σ 57) h) = g47_1 k G (σ 1) (σ 2) (σ 3) (σ 4) (σ 5) (σ 49) h := (kgroups_cons (fun σ h => g47_2_eq k G σ h)).trans (g47_1_eq0 k G σ h)
@[simp] def g47_0 {R : Type} (k : Nat) (G : KT6 R) (v1 v2 v3 v4 v5 : GV) (h : Heap) : Option R := (kfa 0 v5).bind fun v45 => (kload1 h v45).bind fun v46 => (klen v46).bind fun v47 => (kbin .gtr v47 (.int .i64 60)).bind fun v48 => g47_1 k G v1 v2 v3 v4 v5 v48 h
theorem g47_0_eq0 {R : Type} (k : Nat) (G : KT6 R) (σ : GS) (h : Heap) : kgroup1 PP cfg NN HH 141 o47 (none, [0, 1, 2, 3, 4]) σ h (fun σ h => g47_1 k G (σ 1) (σ 2) (σ 3) (σ 4) (σ 5) (σ 49) h) = g47_0 k G (σ 1) (σ 2) (σ 3) (σ 4) (σ 5) h := by kernel_rfl
theorem g47_0_eq {R : Type} (k : Nat) (G : KT6 R) (σ : GS) (h : Heap) : kgroups PP cfg NN HH 141 o47 [(none, [0, 1, 2, 3, 4]), (some (4, false), [5, 6, 7, 8, 9, 10, 11]), (none, [12])] σ h (fun σ h => G .nrm (σ 1) (σ 2) (σ 3) (σ 4) (σ 5) (σ 57) h) = g47_0 k G (σ 1) (σ 2) (σ 3) (σ 4) (σ 5) h := (kgroups_cons (fun σ h => g47_1_eq k G σ h)).trans (g47_0_eq0 k G σ h)
@[simp] def n47 {R : Type} (k : Nat) (G : KT6 R) (v1 v2 v3 v4 v5 : GV) (h : Heap) : Option R := g47_0 k G v1 v2 v3 v4 v5 h
theorem n47_eq {R : Type} (k : Nat) (G : KT6 R) (σ : GS) (h : Heap) : KC k 141 c47 σ h (fun x σ h => G x (σ 1) (σ 2) (σ 3) (σ 4) (σ 5) (σ 57) h) = n47 k G (σ 1) (σ 2) (σ 3) (σ 4) (σ 5) h := (kregion_eq (id := 8) (draw := false) (ops := o47) (gs := [(none, [0, 1, 2, 3, 4]), (some (4, false), [5, 6, 7, 8, 9, 10, 11]), (none, [12])]) (by kernel_rfl) (by kernel_rfl) (by kernel_rfl)).trans (g47_0_eq k G σ h)
@[simp] def n45 {R : Type} (k : Nat) (G : KT5 R) (v1 v2 v3 v4 v5 : GV) (h : Heap) : Option R := n47 k (fun x v1 v2 v3 v4 v5 v57 h => kx x (n46 k G v1 v2 v3 v4 v5 v57 h) (G x v1 v2 v3 v4 v5 h)) v1 v2 v3 v4 v5 h
theorem n45_eq {R : Type} (k : Nat) (G : KT5 R) (σ : GS) (h : Heap) : KC k 141 c45 σ h (fun x σ h => G x (σ 1) (σ 2) (σ 3) (σ 4) (σ 5) h) = n45 k G (σ 1) (σ 2) (σ 3) (σ 4) (σ 5) h := (kseq (b := c46) rfl (fun σ h => n46_eq k G σ h)).trans (n47_eq k (fun x v1 v2 v3 v4 v5 v57 h => kx x (n46 k G v1 v2 v3 v4 v5 v57 h) (G x v1 v2 v3 v4 v5 h)) σ h)
@[simp] def n13 {R : Type} (k : Nat) (G : KT4 R) (v1 v2 v3 v4 v5 : GV) (h : Heap) : Option R := n45 k (fun x v1 v2 v3 v4 v5 h => kx x (n14 k G v1 v2 v3 v4 v5 h) (G x v1 v2 v3 v4 h)) v1 v2 v3 v4 v5 h
theorem n13_eq {R : Type} (k : Nat) (G : KT4 R) (σ : GS) (h : Heap) : KC k 141 c13 σ h (fun x σ h => G x (σ 1) (σ 2) (σ 3) (σ 4) h) = n13 k G (σ 1) (σ 2) (σ 3) (σ 4) (σ 5) h := (kseq (b := c14) rfl (fun σ h => n14_eq k G σ h)).trans (n45_eq k (fun x v1 v2 v3 v4 v5 h => kx x (n14 k G v1 v2 v3 v4 v5 h) (G x v1 v2 v3 v4 h)) σ h)
noncomputable def c48 : Code := cL c12
@[simp] def n12 {R : Type} (k : Nat) (G : KT4 R) (v1 v2 v3 v4 : GV) (h : Heap) : Option R := (kfa 0 v1).bind fun v40 => (kload1 h v40).bind fun v41 => (kia 2 v41 v4).bind fun v43 => (kloadA 2 h v43).bind fun v44 => kalloc [.nils, (.int .i64 0)] h fun v5 h => (kstore 2 h v5 v44).bind fun h => n13 k G v1 v2 v3 v4 v5 h
theorem n12_eq0 {R : Type} (k : Nat) (G : KT4 R) (σ : GS) (h : Heap) : KC k 141 c48 σ h (fun x σ h => kx x (n13 k G (σ 1) (σ 2) (σ 3) (σ 4) (σ 5) h) (G x (σ 1) (σ 2) (σ 3) (σ 4) h)) = n12 k G (σ 1) (σ 2) (σ 3) (σ 4) h := by kernel_rfl
theorem n12_eq {R : Type} (k : Nat) (G : KT4 R) (σ : GS) (h : Heap) : KC k 141 c12 σ h (fun x σ h => G x (σ 1) (σ 2) (σ 3) (σ 4) h) = n12 k G (σ 1) (σ 2) (σ 3) (σ 4) h := (kseq (b := c13) rfl (fun σ h => n13_eq k G σ h)).trans (n12_eq0 k G σ h)
@[simp] def n11 {R : Type} (k : Nat) (G : KT4 R) (v1 v2 v3 v4 : GV) (h : Heap) : Option R := n12 k (fun x v1 v2 v3 v4 h => kb 1 x fun x => G x v1 v2 v3 v4 h) v1 v2 v3 v4 h
theorem n11_eq {R : Type} (k : Nat) (G : KT4 R) (σ : GS) (h : Heap) : KC k 141 c11 σ h (fun x σ h => G x (σ 1) (σ 2) (σ 3) (σ 4) h) = n11 k G (σ 1) (σ 2) (σ 3) (σ 4) h := (kblock_eq (a := c12) rfl).trans (n12_eq k (fun x v1 v2 v3 v4 h => kb 1 x fun x => G x v1 v2 v3 v4 h) σ h)
@[simp] def n9 {R : Type} (k : Nat) (G : KT4 R) (v1 v2 v3 v4 : GV) (h : Heap) : Option R := n11 k (fun x v1 v2 v3 v4 h => kx x (n10 k G v1 v2 v3 v4 h) (G x v1 v2 v3 v4 h)) v1 v2 v3 v4 h
theorem n9_eq {R : Type} (k : Nat) (G : KT4 R) (σ : GS) (h : Heap) : KC k 141 c9 σ h (fun x σ h => G x (σ 1) (σ 2) (σ 3) (σ 4) h) = n9 k G (σ 1) (σ 2) (σ 3) (σ 4) h := (kseq (b := c10) rfl (fun σ h => n10_eq k G σ h)).trans (n11_eq k (fun x v1 v2 v3 v4 h => kx x (n10 k G v1 v2 v3 v4 h) (G x v1 v2 v3 v4 h)) σ h)
noncomputable def c49 : Code := cL c8
@[simp] def n8 {R : Type} (k : Nat) (G : KT4 R) (v1 v2 v3 v4 : GV) (h : Heap) : Option R := (kbin .lss v4 v3).bind fun v37 => kcond v37 (n9 k G v1 v2 v3 v4 h) (G (.ext 0) v1 v2 v3 v4 h)
theorem n8_eq0 {R : Type} (k : Nat) (G : KT4 R) (σ : GS) (h : Heap) : KC k 141 c49 σ h (fun x σ h => kx x (n9 k G (σ 1) (σ 2) (σ 3) (σ 4) h) (G x (σ 1) (σ 2) (σ 3) (σ 4) h)) = n8 k G (σ 1) (σ 2) (σ 3) (σ 4) h := by kernel_rfl
theorem n8_eq {R : Type} (k : Nat) (G : KT4 R) (σ : GS) (h : Heap) : KC k 141 c8 σ h (fun x σ h => G x (σ 1) (σ 2) (σ 3) (σ 4) h) = n8 k G (σ 1) (σ 2) (σ 3) (σ 4) h := (kseq (b := c9) rfl (fun σ h => n9_eq k G σ h)).trans (n8_eq0 k G σ h)
def l7 {R : Type} (k : Nat) (G : KT1 R) : Nat → GV → GV → GV → GV → Heap → Option R
  | 0, _, _, _, _, _ => none
  | r + 1, v1, v2, v3, v4, h => n8 k (fun x v1 v2 v3 v4 h => kx x (l7 k G r v1 v2 v3 v4 h) (G x v2 h)) v1 v2 v3 v4 h
theorem l7_eq {R : Type} (k : Nat) (G : KT1 R) : ∀ (r : Nat) (σ : GS) (h : Heap), kloop (fun σ h K => KC k 141 c8 σ h K) r σ h (fun x σ h => G x (σ 2) h) = l7 k G r (σ 1) (σ 2) (σ 3) (σ 4) h
  | 0, _, _ => rfl
  | r + 1, σ, h => (kloop_eq (fun σ h => l7_eq k G r σ h)).trans (n8_eq k (fun x v1 v2 v3 v4 h => kx x (l7 k G r v1 v2 v3 v4 h) (G x v2 h)) σ h)
@[simp] def n7 {R : Type} (k : Nat) (G : KT1 R) (v1 v2 v3 v4 : GV) (h : Heap) : Option R := l7 k G k v1 v2 v3 v4 h
theorem n7_eq {R : Type} (k : Nat) (G : KT1 R) (σ : GS) (h : Heap) : KC k 141 c7 σ h (fun x σ h => G x (σ 2) h) = n7 k G (σ 1) (σ 2) (σ 3) (σ 4) h := (kloopc_eq (a := c8) rfl).trans (l7_eq k G k σ h)
@[simp] def n6 {R : Type} (k : Nat) (G : KT1 R) (v1 v2 v3 v4 : GV) (h : Heap) : Option R := n7 k (fun x v2 h => kb 0 x fun x => G x v2 h) v1 v2 v3 v4 h
theorem n6_eq {R : Type} (k : Nat) (G : KT1 R) (σ : GS) (h : Heap) : KC k 141 c6 σ h (fun x σ h => G x (σ 2) h) = n6 k G (σ 1) (σ 2) (σ 3) (σ 4) h := (kblock_eq (a := c7) rfl).trans (n7_eq k (fun x v2 h => kb 0 x fun x => G x v2 h) σ h)
noncomputable def c50 : Code := cL c5
@[simp] def n5 {R : Type} (k : Nat) (G : KT1 R) (v1 v2 v3 : GV) (h : Heap) : Option R := n6 k G v1 v2 v3 (.int .i64 0) h
theorem n5_eq0 {R : Type} (k : Nat) (G : KT1 R) (σ : GS) (h : Heap) : KC k 141 c50 σ h (fun x σ h => kx x (n6 k G (σ 1) (σ 2) (σ 3) (σ 4) h) (G x (σ 2) h)) = n5 k G (σ 1) (σ 2) (σ 3) h := by kernel_rfl
theorem n5_eq {R : Type} (k : Nat) (G : KT1 R) (σ : GS) (h : Heap) : KC k 141 c5 σ h (fun x σ h => G x (σ 2) h) = n5 k G (σ 1) (σ 2) (σ 3) h := (kseq (b := c6) rfl (fun σ h => n6_eq k G σ h)).trans (n5_eq0 k G σ h)
@[simp] def n3 {R : Type} (k : Nat) (G : KT1 R) (v1 v2 v3 : GV) (h : Heap) : Option R := n5 k (fun x v2 h => kx x (n4 k G h) (G x v2 h)) v1 v2 v3 h
theorem n3_eq {R : Type} (k : Nat) (G : KT1 R) (σ : GS) (h : Heap) : KC k 141 c3 σ h (fun x σ h => G x (σ 2) h) = n3 k G (σ 1) (σ 2) (σ 3) h := (kseq (b := c4) rfl (fun σ h => n4_eq k G σ h)).trans (n5_eq k (fun x v2 h => kx x (n4 k G h) (G x v2 h)) σ h)
noncomputable def c51 : Code := cL c2
noncomputable def c52 : Code := cR c51
@[simp] def n52 {R : Type} (k : Nat) (G : KT3 R) (v1 v2 v3 v34 : GV) (h : Heap) : Option R := kcond v34 (G .ret v1 (.bool false) v3 h) (G .nrm v1 v2 v3 h)
theorem n52_eq {R : Type} (k : Nat) (G : KT3 R) (σ : GS) (h : Heap) : KC k 141 c52 σ h (fun x σ h => G x (σ 1) (σ 2) (σ 3) h) = n52 k G (σ 1) (σ 2) (σ 3) (σ 34) h := by kernel_rfl
noncomputable def c53 : Code := cL c51
noncomputable def o53 : Array Oper := cO c53
@[simp] def g53_6 {R : Type} (k : Nat) (G : KT4 R) (v1 v2 v3 v27 v33 : GV) (h : Heap) : Option R := (kpick v27 (.bool true) v33).bind fun v34 => G .nrm v1 v2 v3 v34 h
theorem g53_6_eq {R : Type} (k : Nat) (G : KT4 R) (σ : GS) (h : Heap) : kgroups PP cfg NN HH 141 o53 [(none, [21])] σ h (fun σ h => G .nrm (σ 1) (σ 2) (σ 3) (σ 34) h) = g53_6 k G (σ 1) (σ 2) (σ 3) (σ 27) (σ 33) h := by kernel_rfl
@[simp] def g53_5 {R : Type} (k : Nat) (G : KT4 R) (v1 v2 v3 v27 : GV) (h : Heap) : Option R := bif tr false v27 then (kfa 2 v1).bind fun v28 => (kload1 h v28).bind fun v29 => (klen v29).bind fun v30 => (kbin .sub v3 (.int .i64 1)).bind fun v32 => (kbin .neq v30 v32).bind fun v33 => g53_6 k G v1 v2 v3 v27 v33 h else g53_6 k G v1 v2 v3 v27 .un h
theorem g53_5_eq0 {R : Type} (k : Nat) (G : KT4 R) (σ : GS) (h : Heap) : kgroup1 PP cfg NN HH 141 o53 (some (14, false), [15, 16, 17, 18, 19, 20]) σ h (fun σ h => g53_6 k G (σ 1) (σ 2) (σ 3) (σ 27) (σ 33) h) = g53_5 k G (σ 1) (σ 2) (σ 3) (σ 27) h := by kernel_rfl
theorem g53_5_eq {R : Type} (k : Nat) (G : KT4 R) (σ : GS) (h : Heap) : kgroups PP cfg NN HH 141 o53 [(some (14, false), [15, 16, 17, 18, 19, 20]), (none, [21])] σ h (fun σ h => G .nrm (σ 1) (σ 2) (σ 3) (σ 34) h) = g53_5 k G (σ 1) (σ 2) (σ 3) (σ 27) h := (kgroups_cons (fun σ h => g53_6_eq k G σ h)).trans (g53_5_eq0 k G σ h)
@[simp] def g53_4 {R : Type} (k : Nat) (G : KT4 R) (v1 v2 v3 v19 v25 : GV) (h : Heap) : Option R := (kpick v19 (.bool true) v25).bind fun v26 => g53_5 k G v1 v2 v3 v26 h
theorem g53_4_eq0 {R : Type} (k : Nat) (G : KT4 R) (σ : GS) (h : Heap) : kgroup1 PP cfg NN HH 141 o53 (none, [13, 14]) σ h (fun σ h => g53_5 k G (σ 1) (σ 2) (σ 3) (σ 27) h) = g53_4 k G (σ 1) (σ 2) (σ 3) (σ 19) (σ 25) h := by kernel_rfl
theorem g53_4_eq {R : Type} (k : Nat) (G : KT4 R) (σ : GS) (h : Heap) : kgroups PP cfg NN HH 141 o53 [(none, [13, 14]), (some (14, false), [15, 16, 17, 18, 19, 20]), (none, [21])] σ h (fun σ h => G .nrm (σ 1) (σ 2) (σ 3) (σ 34) h) = g53_4 k G (σ 1) (σ 2) (σ 3) (σ 19) (σ 25) h := (kgroups_cons (fun σ h => g53_5_eq k G σ h)).trans (g53_4_eq0 k G σ h)
@[simp] def g53_3 {R : Type} (k : Nat) (G : KT4 R) (v1 v2 v3 v19 : GV) (h : Heap) : Option R := bif tr false v19 then (kfa 1 v1).bind fun v20 => (kload1 h v20).bind fun v21 => (klen v21).bind fun v22 => (kbin .sub v3 (.int .i64 1)).bind fun v24 => (kbin .neq v22 v24).bind fun v25 => g53_4 k G v1 v2 v3 v19 v25 h else g53_4 k G v1 v2 v3 v19 .un h
theorem g53_3_eq0 {R : Type} (k : Nat) (G : KT4 R) (σ : GS) (h : Heap) : kgroup1 PP cfg NN HH 141 o53 (some (6, false), [7, 8, 9, 10, 11, 12]) σ h (fun σ h => g53_4 k G (σ 1) (σ 2) (σ 3) (σ 19) (σ 25) h) = g53_3 k G (σ 1) (σ 2) (σ 3) (σ 19) h := by kernel_rfl
theorem g53_3_eq {R : Type} (k : Nat) (G : KT4 R) (σ : GS) (h : Heap) : kgroups PP cfg NN HH 141 o53 [(some (6, false), [7, 8, 9, 10, 11, 12]), (none, [13, 14]), (some (14, false), [15, 16, 17, 18, 19, 20]), (none, [21])] σ h (fun σ h => G .nrm (σ 1) (σ 2) (σ 3) (σ 34) h) = g53_3 k G (σ 1) (σ 2) (σ 3) (σ 19) h := (kgroups_cons (fun σ h => g53_4_eq k G σ h)).trans (g53_3_eq0 k G σ h)
@[simp] def g53_2 {R : Type} (k : Nat) (G : KT4 R) (v1 v2 v3 v15 v17 : GV) (h : Heap) : Option R := (kpick v15 (.bool true) v17).bind fun v18 => g53_3 k G v1 v2 v3 v18 h
theorem g53_2_eq0 {R : Type} (k : Nat) (G : KT4 R) (σ : GS) (h : Heap) : kgroup1 PP cfg NN HH 141 o53 (none, [5, 6]) σ h (fun σ h => g53_3 k G (σ 1) (σ 2) (σ 3) (σ 19) h) = g53_2 k G (σ 1) (σ 2) (σ 3) (σ 15) (σ 17) h := by kernel_rfl
theorem g53_2_eq {R : Type} (k : Nat) (G : KT4 R) (σ : GS) (h : Heap) : kgroups PP cfg NN HH 141 o53 [(none, [5, 6]), (some (6, false), [7, 8, 9, 10, 11, 12]), (none, [13, 14]), (some (14, false), [15, 16, 17, 18, 19, 20]), (none, [21])] σ h (fun σ h => G .nrm (σ 1) (σ 2) (σ 3) (σ 34) h) = g53_2 k G (σ 1) (σ 2) (σ 3) (σ 15) (σ 17) h := (kgroups_cons (fun σ h => g53_3_eq k G σ h)).trans (g53_2_eq0 k G σ h)
@[simp] def g53_1 {R : Type} (k : Nat) (G : KT4 R) (v1 v2 v3 v15 : GV) (h : Heap) : Option R := bif tr false v15 then (kbin .gtr v3 (.int .i64 5)).bind fun v17 => g53_2 k G v1 v2 v3 v15 v17 h else g53_2 k G v1 v2 v3 v15 .un h
theorem g53_1_eq0 {R : Type} (k : Nat) (G : KT4 R) (σ : GS) (h : Heap) : kgroup1 PP cfg NN HH 141 o53 (some (2, false), [3, 4]) σ h (fun σ h => g53_2 k G (σ 1) (σ 2) (σ 3) (σ 15) (σ 17) h) = g53_1 k G (σ 1) (σ 2) (σ 3) (σ 15) h := by kernel_rfl
theorem g53_1_eq {R : Type} (k : Nat) (G : KT4 R) (σ : GS) (h : Heap) : kgroups PP cfg NN HH 141 o53 [(some (2, false), [3, 4]), (none, [5, 6]), (some (6, false), [7, 8, 9, 10, 11, 12]), (none, [13, 14]), (some (14, false), [15, 16, 17, 18, 19, 20]), (none, [21])] σ h (fun σ h => G .nrm (σ 1) (σ 2) (σ 3) (σ 34) h) = g53_1 k G (σ 1) (σ 2) (σ 3) (σ 15) h := (kgroups_cons (fun σ h => g53_2_eq k G σ h)).trans (g53_1_eq0 k G σ h)
@[simp] def g53_0 {R : Type} (k : Nat) (G : KT4 R) (v1 v2 v3 : GV) (h : Heap) : Option R := (kbin .lss v3 (.int .i64 1)).bind fun v14 => g53_1 k G v1 v2 v3 v14 h
theorem g53_0_eq0 {R : Type} (k : Nat) (G : KT4 R) (σ : GS) (h : Heap) : kgroup1 PP cfg NN HH 141 o53 (none, [0, 1, 2]) σ h (fun σ h => g53_1 k G (σ 1) (σ 2) (σ 3) (σ 15) h) = g53_0 k G (σ 1) (σ 2) (σ 3) h := by kernel_rfl
theorem g53_0_eq {R : Type} (k : Nat) (G : KT4 R) (σ : GS) (h : Heap) : kgroups PP cfg NN HH 141 o53 [(none, [0, 1, 2]), (some (2, false), [3, 4]), (none, [5, 6]), (some (6, false), [7, 8, 9, 10, 11, 12]), (none, [13, 14]), (some (14, false), [15, 16, 17, 18, 19, 20]), (none, [21])] σ h (fun σ h => G .nrm (σ 1) (σ 2) (σ 3) (σ 34) h) = g53_0 k G (σ 1) (σ 2) (σ 3) h := (kgroups_cons (fun σ h => g53_1_eq k G σ h)).trans (g53_0_eq0 k G σ h)
@[simp] def n53 {R : Type} (k : Nat) (G : KT4 R) (v1 v2 v3 : GV) (h : Heap) : Option R := g53_0 k G v1 v2 v3 h
theorem n53_eq {R : Type} (k : Nat) (G : KT4 R) (σ : GS) (h : Heap) : KC k 141 c53 σ h (fun x σ h => G x (σ 1) (σ 2) (σ 3) (σ 34) h) = n53 k G (σ 1) (σ 2) (σ 3) h := (kregion_eq (id := 2) (draw := false) (ops := o53) (gs := [(none, [0, 1, 2]), (some (2, false), [3, 4]), (none, [5, 6]), (some (6, false), [7, 8, 9, 10, 11, 12]), (none, [13, 14]), (some (14, false), [15, 16, 17, 18, 19, 20]), (none, [21])]) (by kernel_rfl) (by kernel_rfl) (by kernel_rfl)).trans (g53_0_eq k G σ h)
@[simp] def n51 {R : Type} (k : Nat) (G : KT3 R) (v1 v2 v3 : GV) (h : Heap) : Option R := n53 k (fun x v1 v2 v3 v34 h => kx x (n52 k G v1 v2 v3 v34 h) (G x v1 v2 v3 h)) v1 v2 v3 h
theorem n51_eq {R : Type} (k : Nat) (G : KT3 R) (σ : GS) (h : Heap) : KC k 141 c51 σ h (fun x σ h => G x (σ 1) (σ 2) (σ 3) h) = n51 k G (σ 1) (σ 2) (σ 3) h := (kseq (b := c52) rfl (fun σ h => n52_eq k G σ h)).trans (n53_eq k (fun x v1 v2 v3 v34 h => kx x (n52 k G v1 v2 v3 v34 h) (G x v1 v2 v3 h)) σ h)
@[simp] def n2 {R : Type} (k : Nat) (G : KT1 R) (v1 v2 v3 : GV) (h : Heap) : Option R := n51 k (fun x v1 v2 v3 h => kx x (n3 k G v1 v2 v3 h) (G x v2 h)) v1 v2 v3 h
theorem n2_eq {R : Type} (k : Nat) (G : KT1 R) (σ : GS) (h : Heap) : KC k 141 c2 σ h (fun x σ h => G x (σ 2) h) = n2 k G (σ 1) (σ 2) (σ 3) h := (kseq (b := c3) rfl (fun σ h => n3_eq k G σ h)).trans (n51_eq k (fun x v1 v2 v3 h => kx x (n3 k G v1 v2 v3 h) (G x v2 h)) σ h)
noncomputable def c54 : Code := cL c1
@[simp] def n1 {R : Type} (k : Nat) (G : KT1 R) (v1 v2 : GV) (h : Heap) : Option R := (kfa 0 v1).bind fun v10 => (kload1 h v10).bind fun v11 => (klen v11).bind fun v12 => n2 k G v1 v2 v12 h
theorem n1_eq0 {R : Type} (k : Nat) (G : KT1 R) (σ : GS) (h : Heap) : KC k 141 c54 σ h (fun x σ h => kx x (n2 k G (σ 1) (σ 2) (σ 3) h) (G x (σ 2) h)) = n1 k G (σ 1) (σ 2) h := by kernel_rfl
theorem n1_eq {R : Type} (k : Nat) (G : KT1 R) (σ : GS) (h : Heap) : KC k 141 c1 σ h (fun x σ h => G x (σ 2) h) = n1 k G (σ 1) (σ 2) h := (kseq (b := c2) rfl (fun σ h => n2_eq k G σ h)).trans (n1_eq0 k G σ h)
noncomputable def c55 : Code := cL c0
@[simp] def n0 {R : Type} (k : Nat) (G : KT1 R) (v0 : GV) (h : Heap) : Option R := kbox v0 h fun v1 h => n1 k G v1 (.bool false) h
theorem n0_eq0 {R : Type} (k : Nat) (G : KT1 R) (σ : GS) (h : Heap) : KC k 141 c55 σ h (fun x σ h => kx x (n1 k G (σ 1) (σ 2) h) (G x (σ 2) h)) = n0 k G (σ 0) h := by kernel_rfl
theorem n0_eq {R : Type} (k : Nat) (G : KT1 R) (σ : GS) (h : Heap) : KC k 141 c0 σ h (fun x σ h => G x (σ 2) h) = n0 k G (σ 0) h := (kseq (b := c1) rfl (fun σ h => n1_eq k G σ h)).trans (n0_eq0 k G σ h)
def run {R : Type} (k : Nat) (a0 : GV) (h : Heap) (fin : GV → Heap → Option R) : Option R := n0 k (fun x v2 h => kend x (fin v2 h)) a0 h
theorem run_eq {R : Type} (k : Nat) (a0 : GV) (h : Heap) (fin : GV → Heap → Option R) : kfun PP cfg NN HH k fn.spec_ChainOk [a0] h fin = run k a0 h fin := (kfun_eq (nt := 141) (c := c0) (show PP.funcs[fn.spec_ChainOk]? = some Try.f35 by kernel_rfl) (by kernel_rfl) (by kernel_rfl) (fun x σ h => by cases x <;> kernel_rfl)).trans (n0_eq k (fun x v2 h => kend x (fin v2 h)) _ h)
theorem gives {k : Nat} {a0 : GV} {v : GV} (e : run k a0 [] finN = some v) : NN fn.spec_ChainOk [a0] = some v := nω_of (by kernel_rfl) ((run_eq k a0 [] finN).trans e)
end S.spec_ChainOk
/-! impl_ChainOk -/
namespace S.impl_ChainOk
noncomputable def c0 : Code := bodyOf Try.f43
noncomputable def c1 : Code := cR c0
noncomputable def c2 : Code := cR c1
noncomputable def c3 : Code := cR c2
noncomputable def c4 : Code := cR c3
@[simp] def n4 {R : Type} (k : Nat) (G : KT1 R) (v1 v2 v3 : GV) (h : Heap) : Option R := (kfa 0 v1).bind fun v85 => (kload1 h v85).bind fun v86 => (kbin .sub v3 (.int .i64 1)).bind fun v88 => (kia 2 v86 v88).bind fun v89 => (kloadA 2 h v89).bind fun v90 => kalloc [.nils, (.int .i64 0)] h fun v7 h => (kstore 2 h v7 v90).bind fun h => (kfa 1 v7).bind fun v91 => (kload1 h v91).bind fun v92 => (kfa 0 v7).bind fun v93 => (kload1 h v93).bind fun v94 => (klen v94).bind fun v95 => (kbin .eql v92 v95).bind fun v96 => G .ret v96 h
theorem n4_eq {R : Type} (k : Nat) (G : KT1 R) (σ : GS) (h : Heap) : KC k 97 c4 σ h (fun x σ h => G x (σ 2) h) = n4 k G (σ 1) (σ 2) (σ 3) h := by kernel_rfl
noncomputable def c5 : Code := cL c3
noncomputable def c6 : Code := cR c5
noncomputable def c7 : Code := cL c6
noncomputable def c8 : Code := cL c7
noncomputable def c9 : Code := cR c8
noncomputable def c10 : Code := cR c9
noncomputable def c11 : Code := cR c10
@[simp] def n11 {R : Type} (k : Nat) (G : KT5 R) (v1 v2 v3 v36 v37 : GV) (h : Heap) : Option R := (kbin .add v37 (.int .i64 1)).bind fun v84 => G .nrm v1 v2 v3 v36 v84 h
theorem n11_eq {R : Type} (k : Nat) (G : KT5 R) (σ : GS) (h : Heap) : KC k 97 c11 σ h (fun x σ h => G x (σ 1) (σ 2) (σ 3) (σ 36) (σ 37) h) = n11 k G (σ 1) (σ 2) (σ 3) (σ 36) (σ 37) h := by kernel_rfl
noncomputable def c12 : Code := cL c10
noncomputable def c13 : Code := cL c12
noncomputable def c14 : Code := cR c13
noncomputable def c15 : Code := cR c14
noncomputable def c16 : Code := cR c15
@[simp] def n16 {R : Type} (k : Nat) (G : KT5 R) (v1 v2 v3 v36 v37 v83 : GV) (h : Heap) : Option R := kcond v83 (G .ret v1 (.bool false) v3 v36 v37 h) (G .nrm v1 v2 v3 v36 v37 h)
theorem n16_eq {R : Type} (k : Nat) (G : KT5 R) (σ : GS) (h : Heap) : KC k 97 c16 σ h (fun x σ h => G x (σ 1) (σ 2) (σ 3) (σ 36) (σ 37) h) = n16 k G (σ 1) (σ 2) (σ 3) (σ 36) (σ 37) (σ 83) h := by kernel_rfl
noncomputable def c17 : Code := cL c15
noncomputable def o17 : Array Oper := cO c17
@[simp] def g17_4 {R : Type} (k : Nat) (G : KT6 R) (v1 v2 v3 v36 v37 v71 v82 : GV) (h : Heap) : Option R := (kpick v71 (.bool true) v82).bind fun v83 => G .nrm v1 v2 v3 v36 v37 v83 h
theorem g17_4_eq {R : Type} (k : Nat) (G : KT6 R) (σ : GS) (h : Heap) : kgroups PP cfg NN HH 97 o17 [(none, [32])] σ h (fun σ h => G .nrm (σ 1) (σ 2) (σ 3) (σ 36) (σ 37) (σ 83) h) = g17_4 k G (σ 1) (σ 2) (σ 3) (σ 36) (σ 37) (σ 71) (σ 82) h := by kernel_rfl
@[simp] def g17_3 {R : Type} (k : Nat) (G : KT6 R) (v1 v2 v3 v4 v5 v6 v36 v37 v71 : GV) (h : Heap) : Option R := bif tr false v71 then (kfa 2 v1).bind fun v72 => (kload1 h v72).bind fun v73 => (kia 1 v73 v4).bind fun v75 => (kload1 h v75).bind fun v76 => (kfa 1 v5).bind fun v77 => (kload1 h v77).bind fun v78 => (kfa 1 v6).bind fun v79 => (kload1 h v79).bind fun v80 => (kN NN fn.impl_areUp [v76, v78, v80] h).bind fun v81 => (kun .not v81).bind fun v82 => g17_4 k G v1 v2 v3 v36 v37 v71 v82 h else g17_4 k G v1 v2 v3 v36 v37 v71 .un h
theorem g17_3_eq0 {R : Type} (k : Nat) (G : KT6 R) (σ : GS) (h : Heap) : kgroup1 PP cfg NN HH 97 o17 (some (20, false), [21, 22, 23, 24, 25, 26, 27, 28, 29, 30, 31]) σ h (fun σ h => g17_4 k G (σ 1) (σ 2) (σ 3) (σ 36) (σ 37) (σ 71) (σ 82) h) = g17_3 k G (σ 1) (σ 2) (σ 3) (σ 4) (σ 5) (σ 6) (σ 36) (σ 37) (σ 71) h := by kernel_rfl
theorem g17_3_eq {R : Type} (k : Nat) (G : KT6 R) (σ : GS) (h : Heap) : kgroups PP cfg NN HH 97 o17 [(some (20, false), [21, 22, 23, 24, 25, 26, 27, 28, 29, 30, 31]), (none, [32])] σ h (fun σ h => G .nrm (σ 1) (σ 2) (σ 3) (σ 36) (σ 37) (σ 83) h) = g17_3 k G (σ 1) (σ 2) (σ 3) (σ 4) (σ 5) (σ 6) (σ 36) (σ 37) (σ 71) h := (kgroups_cons (fun σ h => g17_4_eq k G σ h)).trans (g17_3_eq0 k G σ h)
@[simp] def g17_2 {R : Type} (k : Nat) (G : KT6 R) (v1 v2 v3 v4 v5 v6 v36 v37 v56 v69 : GV) (h : Heap) : Option R := (kpick v56 (.bool true) v69).bind fun v70 => g17_3 k G v1 v2 v3 v4 v5 v6 v36 v37 v70 h
theorem g17_2_eq0 {R : Type} (k : Nat) (G : KT6 R) (σ : GS) (h : Heap) : kgroup1 PP cfg NN HH 97 o17 (none, [19, 20]) σ h (fun σ h => g17_3 k G (σ 1) (σ 2) (σ 3) (σ 4) (σ 5) (σ 6) (σ 36) (σ 37) (σ 71) h) = g17_2 k G (σ 1) (σ 2) (σ 3) (σ 4) (σ 5) (σ 6) (σ 36) (σ 37) (σ 56) (σ 69) h := by kernel_rfl
theorem g17_2_eq {R : Type} (k : Nat) (G : KT6 R) (σ : GS) (h : Heap) : kgroups PP cfg NN HH 97 o17 [(none, [19, 20]), (some (20, false), [21, 22, 23, 24, 25, 26, 27, 28, 29, 30, 31]), (none, [32])] σ h (fun σ h => G .nrm (σ 1) (σ 2) (σ 3) (σ 36) (σ 37) (σ 83) h) = g17_2 k G (σ 1) (σ 2) (σ 3) (σ 4) (σ 5) (σ 6) (σ 36) (σ 37) (σ 56) (σ 69) h := (kgroups_cons (fun σ h => g17_3_eq k G σ h)).trans (g17_2_eq0 k G σ h)
@[simp] def g17_1 {R : Type} (k : Nat) (G : KT6 R) (v1 v2 v3 v4 v5 v6 v36 v37 v56 : GV) (h : Heap) : Option R := bif tr false v56 then (kfa 0 v5).bind fun v57 => (kload1 h v57).bind fun v58 => (kfa 0 v6).bind fun v59 => (kload1 h v59).bind fun v60 => (kfa 1 v1).bind fun v61 => (kload1 h v61).bind fun v62 => (kia 1 v62 v4).bind fun v64 => (kload1 h v64).bind fun v65 => (gfill (fun i => some (i * 1, 1)) (zeros [.nils] 2) [(0, v60), (1, v65)]).bind fun c => kbs 2 1 c h fun v66 h => (kN NN fn.slices_Concat_string [v66] h).bind fun v67 => (kN NN fn.slices_Equal_string [v58, v67] h).bind fun v68 => (kun .not v68).bind fun v69 => g17_2 k G v1 v2 v3 v4 v5 v6 v36 v37 v56 v69 h else g17_2 k G v1 v2 v3 v4 v5 v6 v36 v37 v56 .un h
theorem g17_1_eq0 {R : Type} (k : Nat) (G : KT6 R) (σ : GS) (h : Heap) : kgroup1 PP cfg NN HH 97 o17 (some (5, false), [6, 7, 8, 9, 10, 11, 12, 13, 14, 15, 16, 17, 18]) σ h (fun σ h => g17_2 k G (σ 1) (σ 2) (σ 3) (σ 4) (σ 5) (σ 6) (σ 36) (σ 37) (σ 56) (σ 69) h) = g17_1 k G (σ 1) (σ 2) (σ 3) (σ 4) (σ 5) (σ 6) (σ 36) (σ 37) (σ 56) h := by kernel_rfl
theorem g17_1_eq {R : Type} (k : Nat) (G : KT6 R) (σ : GS) (h : Heap) : kgroups PP cfg NN HH 97 o17 [(some (5, false), [6, 7, 8, 9, 10, 11, 12, 13, 14, 15, 16, 17, 18]), (none, [19, 20]), (some (20, false), [21, 22, 23, 24, 25, 26, 27, 28, 29, 30, 31]), (none, [32])] σ h (fun σ h => G .nrm (σ 1) (σ 2) (σ 3) (σ 36) (σ 37) (σ 83) h) = g17_1 k G (σ 1) (σ 2) (σ 3) (σ 4) (σ 5) (σ 6) (σ 36) (σ 37) (σ 56) h := (kgroups_cons (fun σ h => g17_2_eq k G σ h)).trans (g17_1_eq0 k G σ h)
@[simp] def g17_0 {R : Type} (k : Nat) (G : KT6 R) (v1 v2 v3 v4 v5 v6 v36 v37 : GV) (h : Heap) : Option R := (kfa 1 v5).bind fun v51 => (kload1 h v51).bind fun v52 => (kfa 1 v6).bind fun v53 => (kload1 h v53).bind fun v54 => (kbin .gtr v52 v54).bind fun v55 => g17_1 k G v1 v2 v3 v4 v5 v6 v36 v37 v55 h
theorem g17_0_eq0 {R : Type} (k : Nat) (G : KT6 R) (σ : GS) (h : Heap) : kgroup1 PP cfg NN HH 97 o17 (none, [0, 1, 2, 3, 4, 5]) σ h (fun σ h => g17_1 k G (σ 1) (σ 2) (σ 3) (σ 4) (σ 5) (σ 6) (σ 36) (σ 37) (σ 56) h) = g17_0 k G (σ 1) (σ 2) (σ 3) (σ 4) (σ 5) (σ 6) (σ 36) (σ 37) h := by kernel_rfl
theorem g17_0_eq {R : Type} (k : Nat) (G : KT6 R) (σ : GS) (h : Heap) : kgroups PP cfg NN HH 97 o17 [(none, [0, 1, 2, 3, 4, 5]), (some (5, false), [6, 7, 8, 9, 10, 11, 12, 13, 14, 15, 16, 17, 18]), (none, [19, 20]), (some (20, false), [21, 22, 23, 24, 25, 26, 27, 28, 29, 30, 31]), (none, [32])] σ h (fun σ h => G .nrm (σ 1) (σ 2) (σ 3) (σ 36) (σ 37) (σ 83) h) = g17_0 k G (σ 1) (σ 2) (σ 3) (σ 4) (σ 5) (σ 6) (σ 36) (σ 37) h := (kgroups_cons (fun σ h => g17_1_eq k G σ h)).trans (g17_0_eq0 k G σ h)
@[simp] def n17 {R : Type} (k : Nat) (G : KT6 R) (v1 v2 v3 v4 v5 v6 v36 v37 : GV) (h : Heap) : Option R := g17_0 k G v1 v2 v3 v4 v5 v6 v36 v37 h
theorem n17_eq {R : Type} (k : Nat) (G : KT6 R) (σ : GS) (h : Heap) : KC k 97 c17 σ h (fun x σ h => G x (σ 1) (σ 2) (σ 3) (σ 36) (σ 37) (σ 83) h) = n17 k G (σ 1) (σ 2) (σ 3) (σ 4) (σ 5) (σ 6) (σ 36) (σ 37) h := (kregion_eq (id := 8) (draw := true) (ops := o17) (gs := [(none, [0, 1, 2, 3, 4, 5]), (some (5, false), [6, 7, 8, 9, 10, 11, 12, 13, 14, 15, 16, 17, 18]), (none, [19, 20]), (some (20, false), [21, 22, 23, 24, 25, 26, 27, 28, 29, 30, 31]), (none, [32])]) (by kernel_rfl) (by kernel_rfl) (by kernel_rfl)).trans (g17_0_eq k G σ h)
@[simp] def n15 {R : Type} (k : Nat) (G : KT5 R) (v1 v2 v3 v4 v5 v6 v36 v37 : GV) (h : Heap) : Option R := n17 k (fun x v1 v2 v3 v36 v37 v83 h => kx x (n16 k G v1 v2 v3 v36 v37 v83 h) (G x v1 v2 v3 v36 v37 h)) v1 v2 v3 v4 v5 v6 v36 v37 h
theorem n15_eq {R : Type} (k : Nat) (G : KT5 R) (σ : GS) (h : Heap) : KC k 97 c15 σ h (fun x σ h => G x (σ 1) (σ 2) (σ 3) (σ 36) (σ 37) h) = n15 k G (σ 1) (σ 2) (σ 3) (σ 4) (σ 5) (σ 6) (σ 36) (σ 37) h := (kseq (b := c16) rfl (fun σ h => n16_eq k G σ h)).trans (n17_eq k (fun x v1 v2 v3 v36 v37 v83 h => kx x (n16 k G v1 v2 v3 v36 v37 v83 h) (G x v1 v2 v3 v36 v37 h)) σ h)
noncomputable def c18 : Code := cL c14
noncomputable def o18 : Array Oper := cO c18
@[simp] def g18_0 {R : Type} (k : Nat) (G : KT8 R) (v1 v2 v3 v4 v36 v37 : GV) (rs : List Rec) (h : Heap) : Option R := (kfa 0 v1).bind fun v40 => (kload1 h v40).bind fun v41 => (kia 2 v41 v4).bind fun v43 => (kloadA 2 h v43).bind fun v44 => (kfa 0 v1).bind fun v45 => kold h fun h0 => (kload1 h v45).bind fun v46 => krs (rs ++ [⟨6, h0.length, h.length, ⟨kblk v45, []⟩⟩]) fun rs => (kbin .add v4 (.int .i64 1)).bind fun v48 => (kia 2 v46 v48).bind fun v49 => kold h fun h0 => (kloadA 2 h v49).bind fun v50 => krs (rs ++ [⟨10, h0.length, h.length, ⟨kblk v49, []⟩⟩]) fun rs => kalloc [.nils, (.int .i64 0)] h fun v5 h => kalloc [.nils, (.int .i64 0)] h fun v6 h => kold h fun h0 => (kstore 2 h v5 v44).bind fun h => krs (rs ++ [⟨13, h0.length, h.length, ⟨[], kblk v5⟩⟩]) fun rs => (kstore 2 h v6 v50).bind fun h => bif chk [(6, 13), (10, 13)] rs then G .nrm v1 v2 v3 v4 v5 v6 v36 v37 h else none
theorem g18_0_eq {R : Type} (k : Nat) (G : KT8 R) (rs : List Rec) (σ : GS) (h : Heap) : kgroupsD PP cfg NN HH 97 o18 [(6, 13), (10, 13)] [(none, [0, 1, 2, 3, 4, 5, 6, 7, 8, 9, 10, 11, 12, 13, 14])] rs σ h (fun rs σ h => bif chk [(6, 13), (10, 13)] rs then G .nrm (σ 1) (σ 2) (σ 3) (σ 4) (σ 5) (σ 6) (σ 36) (σ 37) h else none) = g18_0 k G (σ 1) (σ 2) (σ 3) (σ 4) (σ 36) (σ 37) rs h := by kernel_rfl
@[simp] def n18 {R : Type} (k : Nat) (G : KT8 R) (v1 v2 v3 v4 v36 v37 : GV) (h : Heap) : Option R := g18_0 k G v1 v2 v3 v4 v36 v37 [] h
theorem n18_eq {R : Type} (k : Nat) (G : KT8 R) (σ : GS) (h : Heap) : KC k 97 c18 σ h (fun x σ h => G x (σ 1) (σ 2) (σ 3) (σ 4) (σ 5) (σ 6) (σ 36) (σ 37) h) = n18 k G (σ 1) (σ 2) (σ 3) (σ 4) (σ 36) (σ 37) h := (kregionD_eq (id := 7) (draw := true) (ops := o18) (gs := [(none, [0, 1, 2, 3, 4, 5, 6, 7, 8, 9, 10, 11, 12, 13, 14])]) (bad := [(6, 13), (10, 13)]) (by kernel_rfl) (by kernel_rfl) (by kernel_rfl) (by kernel_rfl) (by kernel_rfl)).trans (g18_0_eq k G [] σ h)
@[simp] def n14 {R : Type} (k : Nat) (G : KT5 R) (v1 v2 v3 v4 v36 v37 : GV) (h : Heap) : Option R := n18 k (fun x v1 v2 v3 v4 v5 v6 v36 v37 h => kx x (n15 k G v1 v2 v3 v4 v5 v6 v36 v37 h) (G x v1 v2 v3 v36 v37 h)) v1 v2 v3 v4 v36 v37 h
theorem n14_eq {R : Type} (k : Nat) (G : KT5 R) (σ : GS) (h : Heap) : KC k 97 c14 σ h (fun x σ h => G x (σ 1) (σ 2) (σ 3) (σ 36) (σ 37) h) = n14 k G (σ 1) (σ 2) (σ 3) (σ 4) (σ 36) (σ 37) h := (kseq (b := c15) rfl (fun σ h => n15_eq k G σ h)).trans (n18_eq k (fun x v1 v2 v3 v4 v5 v6 v36 v37 h => kx x (n15 k G v1 v2 v3 v4 v5 v6 v36 v37 h) (G x v1 v2 v3 v36 v37 h)) σ h)
noncomputable def c19 : Code := cL c13
@[simp] def n13 {R : Type} (k : Nat) (G : KT5 R) (v1 v2 v3 v36 v37 : GV) (h : Heap) : Option R := n14 k G v1 v2 v3 v37 v36 v37 h
theorem n13_eq0 {R : Type} (k : Nat) (G : KT5 R) (σ : GS) (h : Heap) : KC k 97 c19 σ h (fun x σ h => kx x (n14 k G (σ 1) (σ 2) (σ 3) (σ 4) (σ 36) (σ 37) h) (G x (σ 1) (σ 2) (σ 3) (σ 36) (σ 37) h)) = n13 k G (σ 1) (σ 2) (σ 3) (σ 36) (σ 37) h := by kernel_rfl
theorem n13_eq {R : Type} (k : Nat) (G : KT5 R) (σ : GS) (h : Heap) : KC k 97 c13 σ h (fun x σ h => G x (σ 1) (σ 2) (σ 3) (σ 36) (σ 37) h) = n13 k G (σ 1) (σ 2) (σ 3) (σ 36) (σ 37) h := (kseq (b := c14) rfl (fun σ h => n14_eq k G σ h)).trans (n13_eq0 k G σ h)
@[simp] def n12 {R : Type} (k : Nat) (G : KT5 R) (v1 v2 v3 v36 v37 : GV) (h : Heap) : Option R := n13 k (fun x v1 v2 v3 v36 v37 h => kb 1 x fun x => G x v1 v2 v3 v36 v37 h) v1 v2 v3 v36 v37 h
theorem n12_eq {R : Type} (k : Nat) (G : KT5 R) (σ : GS) (h : Heap) : KC k 97 c12 σ h (fun x σ h => G x (σ 1) (σ 2) (σ 3) (σ 36) (σ 37) h) = n12 k G (σ 1) (σ 2) (σ 3) (σ 36) (σ 37) h := (kblock_eq (a := c13) rfl).trans (n13_eq k (fun x v1 v2 v3 v36 v37 h => kb 1 x fun x => G x v1 v2 v3 v36 v37 h) σ h)
@[simp] def n10 {R : Type} (k : Nat) (G : KT5 R) (v1 v2 v3 v36 v37 : GV) (h : Heap) : Option R := n12 k (fun x v1 v2 v3 v36 v37 h => kx x (n11 k G v1 v2 v3 v36 v37 h) (G x v1 v2 v3 v36 v37 h)) v1 v2 v3 v36 v37 h
theorem n10_eq {R : Type} (k : Nat) (G : KT5 R) (σ : GS) (h : Heap) : KC k 97 c10 σ h (fun x σ h => G x (σ 1) (σ 2) (σ 3) (σ 36) (σ 37) h) = n10 k G (σ 1) (σ 2) (σ 3) (σ 36) (σ 37) h := (kseq (b := c11) rfl (fun σ h => n11_eq k G σ h)).trans (n12_eq k (fun x v1 v2 v3 v36 v37 h => kx x (n11 k G v1 v2 v3 v36 v37 h) (G x v1 v2 v3 v36 v37 h)) σ h)
noncomputable def c20 : Code := cL c9
@[simp] def n9 {R : Type} (k : Nat) (G : KT5 R) (v1 v2 v3 v36 v37 v38 : GV) (h : Heap) : Option R := kcond v38 (n10 k G v1 v2 v3 v36 v37 h) (G (.ext 0) v1 v2 v3 v36 v37 h)
theorem n9_eq0 {R : Type} (k : Nat) (G : KT5 R) (σ : GS) (h : Heap) : KC k 97 c20 σ h (fun x σ h => kx x (n10 k G (σ 1) (σ 2) (σ 3) (σ 36) (σ 37) h) (G x (σ 1) (σ 2) (σ 3) (σ 36) (σ 37) h)) = n9 k G (σ 1) (σ 2) (σ 3) (σ 36) (σ 37) (σ 38) h := by kernel_rfl
theorem n9_eq {R : Type} (k : Nat) (G : KT5 R) (σ : GS) (h : Heap) : KC k 97 c9 σ h (fun x σ h => G x (σ 1) (σ 2) (σ 3) (σ 36) (σ 37) h) = n9 k G (σ 1) (σ 2) (σ 3) (σ 36) (σ 37) (σ 38) h := (kseq (b := c10) rfl (fun σ h => n10_eq k G σ h)).trans (n9_eq0 k G σ h)
noncomputable def c21 : Code := cL c8
@[simp] def n8 {R : Type} (k : Nat) (G : KT5 R) (v1 v2 v3 v36 v37 : GV) (h : Heap) : Option R := (kbin .lss v37 v36).bind fun v38 => n9 k G v1 v2 v3 v36 v37 v38 h
theorem n8_eq0 {R : Type} (k : Nat) (G : KT5 R) (σ : GS) (h : Heap) : KC k 97 c21 σ h (fun x σ h => kx x (n9 k G (σ 1) (σ 2) (σ 3) (σ 36) (σ 37) (σ 38) h) (G x (σ 1) (σ 2) (σ 3) (σ 36) (σ 37) h)) = n8 k G (σ 1) (σ 2) (σ 3) (σ 36) (σ 37) h := by kernel_rfl
theorem n8_eq {R : Type} (k : Nat) (G : KT5 R) (σ : GS) (h : Heap) : KC k 97 c8 σ h (fun x σ h => G x (σ 1) (σ 2) (σ 3) (σ 36) (σ 37) h) = n8 k G (σ 1) (σ 2) (σ 3) (σ 36) (σ 37) h := (kseq (b := c9) rfl (fun σ h => n9_eq k G σ h)).trans (n8_eq0 k G σ h)
def l7 {R : Type} (k : Nat) (G : KT3 R) : Nat → GV → GV → GV → GV → GV → Heap → Option R
  | 0, _, _, _, _, _, _ => none
  | r + 1, v1, v2, v3, v36, v37, h => n8 k (fun x v1 v2 v3 v36 v37 h => kx x (l7 k G r v1 v2 v3 v36 v37 h) (G x v1 v2 v3 h)) v1 v2 v3 v36 v37 h
theorem l7_eq {R : Type} (k : Nat) (G : KT3 R) : ∀ (r : Nat) (σ : GS) (h : Heap), kloop (fun σ h K => KC k 97 c8 σ h K) r σ h (fun x σ h => G x (σ 1) (σ 2) (σ 3) h) = l7 k G r (σ 1) (σ 2) (σ 3) (σ 36) (σ 37) h
  | 0, _, _ => rfl
  | r + 1, σ, h => (kloop_eq (fun σ h => l7_eq k G r σ h)).trans (n8_eq k (fun x v1 v2 v3 v36 v37 h => kx x (l7 k G r v1 v2 v3 v36 v37 h) (G x v1 v2 v3 h)) σ h)
@[simp] def n7 {R : Type} (k : Nat) (G : KT3 R) (v1 v2 v3 v36 v37 : GV) (h : Heap) : Option R := l7 k G k v1 v2 v3 v36 v37 h
theorem n7_eq {R : Type} (k : Nat) (G : KT3 R) (σ : GS) (h : Heap) : KC k 97 c7 σ h (fun x σ h => G x (σ 1) (σ 2) (σ 3) h) = n7 k G (σ 1) (σ 2) (σ 3) (σ 36) (σ 37) h := (kloopc_eq (a := c8) rfl).trans (l7_eq k G k σ h)
@[simp] def n6 {R : Type} (k : Nat) (G : KT3 R) (v1 v2 v3 v36 v37 : GV) (h : Heap) : Option R := n7 k (fun x v1 v2 v3 h => kb 0 x fun x => G x v1 v2 v3 h) v1 v2 v3 v36 v37 h
theorem n6_eq {R : Type} (k : Nat) (G : KT3 R) (σ : GS) (h : Heap) : KC k 97 c6 σ h (fun x σ h => G x (σ 1) (σ 2) (σ 3) h) = n6 k G (σ 1) (σ 2) (σ 3) (σ 36) (σ 37) h := (kblock_eq (a := c7) rfl).trans (n7_eq k (fun x v1 v2 v3 h => kb 0 x fun x => G x v1 v2 v3 h) σ h)
noncomputable def c22 : Code := cL c5
@[simp] def n5 {R : Type} (k : Nat) (G : KT3 R) (v1 v2 v3 : GV) (h : Heap) : Option R := (kbin .sub v3 (.int .i64 1)).bind fun v36 => n6 k G v1 v2 v3 v36 (.int .i64 0) h
theorem n5_eq0 {R : Type} (k : Nat) (G : KT3 R) (σ : GS) (h : Heap) : KC k 97 c22 σ h (fun x σ h => kx x (n6 k G (σ 1) (σ 2) (σ 3) (σ 36) (σ 37) h) (G x (σ 1) (σ 2) (σ 3) h)) = n5 k G (σ 1) (σ 2) (σ 3) h := by kernel_rfl
theorem n5_eq {R : Type} (k : Nat) (G : KT3 R) (σ : GS) (h : Heap) : KC k 97 c5 σ h (fun x σ h => G x (σ 1) (σ 2) (σ 3) h) = n5 k G (σ 1) (σ 2) (σ 3) h := (kseq (b := c6) rfl (fun σ h => n6_eq k G σ h)).trans (n5_eq0 k G σ h)
@[simp] def n3 {R : Type} (k : Nat) (G : KT1 R) (v1 v2 v3 : GV) (h : Heap) : Option R := n5 k (fun x v1 v2 v3 h => kx x (n4 k G v1 v2 v3 h) (G x v2 h)) v1 v2 v3 h
theorem n3_eq {R : Type} (k : Nat) (G : KT1 R) (σ : GS) (h : Heap) : KC k 97 c3 σ h (fun x σ h => G x (σ 2) h) = n3 k G (σ 1) (σ 2) (σ 3) h := (kseq (b := c4) rfl (fun σ h => n4_eq k G σ h)).trans (n5_eq k (fun x v1 v2 v3 h => kx x (n4 k G v1 v2 v3 h) (G x v2 h)) σ h)
noncomputable def c23 : Code := cL c2
noncomputable def c24 : Code := cR c23
@[simp] def n24 {R : Type} (k : Nat) (G : KT3 R) (v1 v2 v3 v34 : GV) (h : Heap) : Option R := kcond v34 (G .ret v1 (.bool false) v3 h) (G .nrm v1 v2 v3 h)
theorem n24_eq {R : Type} (k : Nat) (G : KT3 R) (σ : GS) (h : Heap) : KC k 97 c24 σ h (fun x σ h => G x (σ 1) (σ 2) (σ 3) h) = n24 k G (σ 1) (σ 2) (σ 3) (σ 34) h := by kernel_rfl
noncomputable def c25 : Code := cL c23
noncomputable def o25 : Array Oper := cO c25
@[simp] def g25_6 {R : Type} (k : Nat) (G : KT4 R) (v1 v2 v3 v30 v33 : GV) (h : Heap) : Option R := (kpick v30 (.bool true) v33).bind fun v34 => G .nrm v1 v2 v3 v34 h
theorem g25_6_eq {R : Type} (k : Nat) (G : KT4 R) (σ : GS) (h : Heap) : kgroups PP cfg NN HH 97 o25 [(none, [23])] σ h (fun σ h => G .nrm (σ 1) (σ 2) (σ 3) (σ 34) h) = g25_6 k G (σ 1) (σ 2) (σ 3) (σ 30) (σ 33) h := by kernel_rfl
@[simp] def g25_5 {R : Type} (k : Nat) (G : KT4 R) (v1 v2 v3 v30 : GV) (h : Heap) : Option R := bif tr false v30 then (kfa 0 v1).bind fun v31 => (kload1 h v31).bind fun v32 => (kN NN fn.slices_ContainsFunc_impl_Server [v32, (.fn fn.impl_ChainOk_1 [])] h).bind fun v33 => g25_6 k G v1 v2 v3 v30 v33 h else g25_6 k G v1 v2 v3 v30 .un h
theorem g25_5_eq0 {R : Type} (k : Nat) (G : KT4 R) (σ : GS) (h : Heap) : kgroup1 PP cfg NN HH 97 o25 (some (19, false), [20, 21, 22]) σ h (fun σ h => g25_6 k G (σ 1) (σ 2) (σ 3) (σ 30) (σ 33) h) = g25_5 k G (σ 1) (σ 2) (σ 3) (σ 30) h := by kernel_rfl
theorem g25_5_eq {R : Type} (k : Nat) (G : KT4 R) (σ : GS) (h : Heap) : kgroups PP cfg NN HH 97 o25 [(some (19, false), [20, 21, 22]), (none, [23])] σ h (fun σ h => G .nrm (σ 1) (σ 2) (σ 3) (σ 34) h) = g25_5 k G (σ 1) (σ 2) (σ 3) (σ 30) h := (kgroups_cons (fun σ h => g25_6_eq k G σ h)).trans (g25_5_eq0 k G σ h)
@[simp] def g25_4 {R : Type} (k : Nat) (G : KT4 R) (v1 v2 v3 v22 v28 : GV) (h : Heap) : Option R := (kpick v22 (.bool true) v28).bind fun v29 => g25_5 k G v1 v2 v3 v29 h
theorem g25_4_eq0 {R : Type} (k : Nat) (G : KT4 R) (σ : GS) (h : Heap) : kgroup1 PP cfg NN HH 97 o25 (none, [18, 19]) σ h (fun σ h => g25_5 k G (σ 1) (σ 2) (σ 3) (σ 30) h) = g25_4 k G (σ 1) (σ 2) (σ 3) (σ 22) (σ 28) h := by kernel_rfl
theorem g25_4_eq {R : Type} (k : Nat) (G : KT4 R) (σ : GS) (h : Heap) : kgroups PP cfg NN HH 97 o25 [(none, [18, 19]), (some (19, false), [20, 21, 22]), (none, [23])] σ h (fun σ h => G .nrm (σ 1) (σ 2) (σ 3) (σ 34) h) = g25_4 k G (σ 1) (σ 2) (σ 3) (σ 22) (σ 28) h := (kgroups_cons (fun σ h => g25_5_eq k G σ h)).trans (g25_4_eq0 k G σ h)
@[simp] def g25_3 {R : Type} (k : Nat) (G : KT4 R) (v1 v2 v3 v22 : GV) (h : Heap) : Option R := bif tr false v22 then (kfa 2 v1).bind fun v23 => (kload1 h v23).bind fun v24 => (klen v24).bind fun v25 => (kbin .sub v3 (.int .i64 1)).bind fun v27 => (kbin .neq v25 v27).bind fun v28 => g25_4 k G v1 v2 v3 v22 v28 h else g25_4 k G v1 v2 v3 v22 .un h
theorem g25_3_eq0 {R : Type} (k : Nat) (G : KT4 R) (σ : GS) (h : Heap) : kgroup1 PP cfg NN HH 97 o25 (some (11, false), [12, 13, 14, 15, 16, 17]) σ h (fun σ h => g25_4 k G (σ 1) (σ 2) (σ 3) (σ 22) (σ 28) h) = g25_3 k G (σ 1) (σ 2) (σ 3) (σ 22) h := by kernel_rfl
theorem g25_3_eq {R : Type} (k : Nat) (G : KT4 R) (σ : GS) (h : Heap) : kgroups PP cfg NN HH 97 o25 [(some (11, false), [12, 13, 14, 15, 16, 17]), (none, [18, 19]), (some (19, false), [20, 21, 22]), (none, [23])] σ h (fun σ h => G .nrm (σ 1) (σ 2) (σ 3) (σ 34) h) = g25_3 k G (σ 1) (σ 2) (σ 3) (σ 22) h := (kgroups_cons (fun σ h => g25_4_eq k G σ h)).trans (g25_3_eq0 k G σ h)
@[simp] def g25_2 {R : Type} (k : Nat) (G : KT4 R) (v1 v2 v3 v14 v20 : GV) (h : Heap) : Option R := (kpick v14 (.bool true) v20).bind fun v21 => g25_3 k G v1 v2 v3 v21 h
theorem g25_2_eq0 {R : Type} (k : Nat) (G : KT4 R) (σ : GS) (h : Heap) : kgroup1 PP cfg NN HH 97 o25 (none, [10, 11]) σ h (fun σ h => g25_3 k G (σ 1) (σ 2) (σ 3) (σ 22) h) = g25_2 k G (σ 1) (σ 2) (σ 3) (σ 14) (σ 20) h := by kernel_rfl
theorem g25_2_eq {R : Type} (k : Nat) (G : KT4 R) (σ : GS) (h : Heap) : kgroups PP cfg NN HH 97 o25 [(none, [10, 11]), (some (11, false), [12, 13, 14, 15, 16, 17]), (none, [18, 19]), (some (19, false), [20, 21, 22]), (none, [23])] σ h (fun σ h => G .nrm (σ 1) (σ 2) (σ 3) (σ 34) h) = g25_2 k G (σ 1) (σ 2) (σ 3) (σ 14) (σ 20) h := (kgroups_cons (fun σ h => g25_3_eq k G σ h)).trans (g25_2_eq0 k G σ h)
@[simp] def g25_1 {R : Type} (k : Nat) (G : KT4 R) (v1 v2 v3 v14 : GV) (h : Heap) : Option R := bif tr false v14 then (kfa 1 v1).bind fun v15 => (kload1 h v15).bind fun v16 => (klen v16).bind fun v17 => (kbin .sub v3 (.int .i64 1)).bind fun v19 => (kbin .neq v17 v19).bind fun v20 => g25_2 k G v1 v2 v3 v14 v20 h else g25_2 k G v1 v2 v3 v14 .un h
theorem g25_1_eq0 {R : Type} (k : Nat) (G : KT4 R) (σ : GS) (h : Heap) : kgroup1 PP cfg NN HH 97 o25 (some (3, false), [4, 5, 6, 7, 8, 9]) σ h (fun σ h => g25_2 k G (σ 1) (σ 2) (σ 3) (σ 14) (σ 20) h) = g25_1 k G (σ 1) (σ 2) (σ 3) (σ 14) h := by kernel_rfl
theorem g25_1_eq {R : Type} (k : Nat) (G : KT4 R) (σ : GS) (h : Heap) : kgroups PP cfg NN HH 97 o25 [(some (3, false), [4, 5, 6, 7, 8, 9]), (none, [10, 11]), (some (11, false), [12, 13, 14, 15, 16, 17]), (none, [18, 19]), (some (19, false), [20, 21, 22]), (none, [23])] σ h (fun σ h => G .nrm (σ 1) (σ 2) (σ 3) (σ 34) h) = g25_1 k G (σ 1) (σ 2) (σ 3) (σ 14) h := (kgroups_cons (fun σ h => g25_2_eq k G σ h)).trans (g25_1_eq0 k G σ h)
@[simp] def g25_0 {R : Type} (k : Nat) (G : KT4 R) (v1 v2 v3 : GV) (h : Heap) : Option R := (kN NN fn.impl_in [v3, (.int .i64 1), (.int .i64 5)] h).bind fun v12 => (kun .not v12).bind fun v13 => g25_1 k G v1 v2 v3 v13 h
theorem g25_0_eq0 {R : Type} (k : Nat) (G : KT4 R) (σ : GS) (h : Heap) : kgroup1 PP cfg NN HH 97 o25 (none, [0, 1, 2, 3]) σ h (fun σ h => g25_1 k G (σ 1) (σ 2) (σ 3) (σ 14) h) = g25_0 k G (σ 1) (σ 2) (σ 3) h := by kernel_rfl
theorem g25_0_eq {R : Type} (k : Nat) (G : KT4 R) (σ : GS) (h : Heap) : kgroups PP cfg NN HH 97 o25 [(none, [0, 1, 2, 3]), (some (3, false), [4, 5, 6, 7, 8, 9]), (none, [10, 11]), (some (11, false), [12, 13, 14, 15, 16, 17]), (none, [18, 19]), (some (19, false), [20, 21, 22]), (none, [23])] σ h (fun σ h => G .nrm (σ 1) (σ 2) (σ 3) (σ 34) h) = g25_0 k G (σ 1) (σ 2) (σ 3) h := (kgroups_cons (fun σ h => g25_1_eq k G σ h)).trans (g25_0_eq0 k G σ h)
@[simp] def n25 {R : Type} (k : Nat) (G : KT4 R) (v1 v2 v3 : GV) (h : Heap) : Option R := g25_0 k G v1 v2 v3 h
theorem n25_eq {R : Type} (k : Nat) (G : KT4 R) (σ : GS) (h : Heap) : KC k 97 c25 σ h (fun x σ h => G x (σ 1) (σ 2) (σ 3) (σ 34) h) = n25 k G (σ 1) (σ 2) (σ 3) h := (kregion_eq (id := 2) (draw := false) (ops := o25) (gs := [(none, [0, 1, 2, 3]), (some (3, false), [4, 5, 6, 7, 8, 9]), (none, [10, 11]), (some (11, false), [12, 13, 14, 15, 16, 17]), (none, [18, 19]), (some (19, false), [20, 21, 22]), (none, [23])]) (by kernel_rfl) (by kernel_rfl) (by kernel_rfl)).trans (g25_0_eq k G σ h)
@[simp] def n23 {R : Type} (k : Nat) (G : KT3 R) (v1 v2 v3 : GV) (h : Heap) : Option R := n25 k (fun x v1 v2 v3 v34 h => kx x (n24 k G v1 v2 v3 v34 h) (G x v1 v2 v3 h)) v1 v2 v3 h
theorem n23_eq {R : Type} (k : Nat) (G : KT3 R) (σ : GS) (h : Heap) : KC k 97 c23 σ h (fun x σ h => G x (σ 1) (σ 2) (σ 3) h) = n23 k G (σ 1) (σ 2) (σ 3) h := (kseq (b := c24) rfl (fun σ h => n24_eq k G σ h)).trans (n25_eq k (fun x v1 v2 v3 v34 h => kx x (n24 k G v1 v2 v3 v34 h) (G x v1 v2 v3 h)) σ h)
@[simp] def n2 {R : Type} (k : Nat) (G : KT1 R) (v1 v2 v3 : GV) (h : Heap) : Option R := n23 k (fun x v1 v2 v3 h => kx x (n3 k G v1 v2 v3 h) (G x v2 h)) v1 v2 v3 h
theorem n2_eq {R : Type} (k : Nat) (G : KT1 R) (σ : GS) (h : Heap) : KC k 97 c2 σ h (fun x σ h => G x (σ 2) h) = n2 k G (σ 1) (σ 2) (σ 3) h := (kseq (b := c3) rfl (fun σ h => n3_eq k G σ h)).trans (n23_eq k (fun x v1 v2 v3 h => kx x (n3 k G v1 v2 v3 h) (G x v2 h)) σ h)
noncomputable def c26 : Code := cL c1
@[simp] def n1 {R : Type} (k : Nat) (G : KT1 R) (v1 v2 : GV) (h : Heap) : Option R := (kfa 0 v1).bind fun v8 => (kload1 h v8).bind fun v9 => (klen v9).bind fun v10 => n2 k G v1 v2 v10 h
theorem n1_eq0 {R : Type} (k : Nat) (G : KT1 R) (σ : GS) (h : Heap) : KC k 97 c26 σ h (fun x σ h => kx x (n2 k G (σ 1) (σ 2) (σ 3) h) (G x (σ 2) h)) = n1 k G (σ 1) (σ 2) h := by kernel_rfl
theorem n1_eq {R : Type} (k : Nat) (G : KT1 R) (σ : GS) (h : Heap) : KC k 97 c1 σ h (fun x σ h => G x (σ 2) h) = n1 k G (σ 1) (σ 2) h := (kseq (b := c2) rfl (fun σ h => n2_eq k G σ h)).trans (n1_eq0 k G σ h)
noncomputable def c27 : Code := cL c0
@[simp] def n0 {R : Type} (k : Nat) (G : KT1 R) (v0 : GV) (h : Heap) : Option R := kbox v0 h fun v1 h => n1 k G v1 (.bool false) h
theorem n0_eq0 {R : Type} (k : Nat) (G : KT1 R) (σ : GS) (h : Heap) : KC k 97 c27 σ h (fun x σ h => kx x (n1 k G (σ 1) (σ 2) h) (G x (σ 2) h)) = n0 k G (σ 0) h := by kernel_rfl
theorem n0_eq {R : Type} (k : Nat) (G : KT1 R) (σ : GS) (h : Heap) : KC k 97 c0 σ h (fun x σ h => G x (σ 2) h) = n0 k G (σ 0) h := (kseq (b := c1) rfl (fun σ h => n1_eq k G σ h)).trans (n0_eq0 k G σ h)
def run {R : Type} (k : Nat) (a0 : GV) (h : Heap) (fin : GV → Heap → Option R) : Option R := n0 k (fun x v2 h => kend x (fin v2 h)) a0 h
theorem run_eq {R : Type} (k : Nat) (a0 : GV) (h : Heap) (fin : GV → Heap → Option R) : kfun PP cfg NN HH k fn.impl_ChainOk [a0] h fin = run k a0 h fin := (kfun_eq (nt := 97) (c := c0) (show PP.funcs[fn.impl_ChainOk]? = some Try.f43 by kernel_rfl) (by kernel_rfl) (by kernel_rfl) (fun x σ h => by cases x <;> kernel_rfl)).trans (n0_eq k (fun x v2 h => kend x (fin v2 h)) _ h)
theorem gives {k : Nat} {a0 : GV} {v : GV} (e : run k a0 [] finN = some v) : NN fn.impl_ChainOk [a0] = some v := nω_of (by kernel_rfl) ((run_eq k a0 [] finN).trans e)
end S.impl_ChainOk
/-! slices_Clone_string -/
namespace S.slices_Clone_string
noncomputable def c0 : Code := bodyOf Try.f60
@[simp] def n0 {R : Type} (k : Nat) (G : KT1 R) (v0 : GV) (h : Heap) : Option R := (gbinop PP .eql 28 (.tmp 3) (.const (.slice none 0 0)) v0 .nils).bind fun v4 => kcond v4 (G .ret .nils h) ((kapp [(.str { data := #[] })] 1 16 .emp v0 h).bind fun r => kr r fun v7 h => G .ret v7 h)
theorem n0_eq {R : Type} (k : Nat) (G : KT1 R) (σ : GS) (h : Heap) : KC k 8 c0 σ h (fun x σ h => G x (σ 2) h) = n0 k G (σ 0) h := by kernel_rfl
def run {R : Type} (k : Nat) (a0 : GV) (h : Heap) (fin : GV → Heap → Option R) : Option R := n0 k (fun x v2 h => kend x (fin v2 h)) a0 h
theorem run_eq {R : Type} (k : Nat) (a0 : GV) (h : Heap) (fin : GV → Heap → Option R) : kfun PP cfg NN HH k fn.slices_Clone_string [a0] h fin = run k a0 h fin := (kfun_eq (nt := 8) (c := c0) (show PP.funcs[fn.slices_Clone_string]? = some Try.f60 by kernel_rfl) (by kernel_rfl) (by kernel_rfl) (fun x σ h => by cases x <;> kernel_rfl)).trans (n0_eq k (fun x v2 h => kend x (fin v2 h)) _ h)
theorem gives {k : Nat} {a0 : GV} {b : Nat} {q : GV × List (List GV)} (e : run k a0 [] (finO b) = some q) : OO fn.slices_Clone_string [a0] b = some q := oω_of ((run_eq k a0 [] (finO b)).trans e)
end S.slices_Clone_string
/-! spec_l17Copy -/
namespace S.spec_l17Copy
noncomputable def c0 : Code := bodyOf Try.f68
noncomputable def c1 : Code := cR c0
noncomputable def c2 : Code := cR c1
noncomputable def c3 : Code := cR c2
noncomputable def c4 : Code := cR c3
noncomputable def c5 : Code := cR c4
@[simp] def n5 {R : Type} (k : Nat) (G : KT1 R) (v2 v3 : GV) (h : Heap) : Option R := (kloadA 3 h v3).bind fun v71 => (kstore 3 h v2 v71).bind fun h => G .ret v2 h
theorem n5_eq {R : Type} (k : Nat) (G : KT1 R) (σ : GS) (h : Heap) : KC k 72 c5 σ h (fun x σ h => G x (σ 2) h) = n5 k G (σ 2) (σ 3) h := by kernel_rfl
noncomputable def c6 : Code := cL c4
noncomputable def c7 : Code := cR c6
noncomputable def c8 : Code := cL c7
noncomputable def c9 : Code := cL c8
noncomputable def c10 : Code := cR c9
noncomputable def c11 : Code := cR c10
@[simp] def n11 {R : Type} (k : Nat) (G : KT4 R) (v1 v2 v3 v6 : GV) (h : Heap) : Option R := (kbin .add v6 (.int .i64 1)).bind fun v58 => G .nrm v1 v2 v3 v58 h
theorem n11_eq {R : Type} (k : Nat) (G : KT4 R) (σ : GS) (h : Heap) : KC k 72 c11 σ h (fun x σ h => G x (σ 1) (σ 2) (σ 3) (σ 6) h) = n11 k G (σ 1) (σ 2) (σ 3) (σ 6) h := by kernel_rfl
noncomputable def c12 : Code := cL c10
noncomputable def c13 : Code := cL c12
noncomputable def o13 : Array Oper := cO c13
@[simp] def g13_0 {R : Type} (k : Nat) (G : KT4 R) (v1 v2 v3 v6 : GV) (rs : List Rec) (h : Heap) : Option R := (kfa 2 v3).bind fun v59 => kold h fun h0 => (kload1 h v59).bind fun v60 => krs (rs ++ [⟨1, h0.length, h.length, ⟨kblk v59, []⟩⟩]) fun rs => kold h fun h0 => krs (rs ++ [⟨2, h0.length, h.length, ⟨[], []⟩⟩]) fun rs => (kfa 2 v1).bind fun v62 => kold h fun h0 => (kload1 h v62).bind fun v63 => krs (rs ++ [⟨4, h0.length, h.length, ⟨kblk v62, []⟩⟩]) fun rs => (kia 1 v63 v6).bind fun v65 => kold h fun h0 => (kload1 h v65).bind fun v66 => krs (rs ++ [⟨7, h0.length, h.length, ⟨kblk v65, []⟩⟩]) fun rs => kold h fun h0 => (kapp [(.int .i64 0)] 1 8 .emp v66 h).bind fun r => kr r fun v67 h => krs (rs ++ [⟨8, h0.length, h.length, ⟨kblk .emp ++ kblk v66, kblk .emp⟩⟩]) fun rs => (gfill (fun i => some (i * 1, 1)) (zeros [.nils] 1) [(0, v67)]).bind fun c => kbs 1 1 c h fun v68 h => (kapp [.nils] 1 24 v60 v68 h).bind fun r => kr r fun v69 h => (kfa 2 v3).bind fun v70 => (kstore 1 h v70 v69).bind fun h => bif chk [(1, 8), (2, 4), (2, 7)] rs then G .nrm v1 v2 v3 v6 h else none
theorem g13_0_eq {R : Type} (k : Nat) (G : KT4 R) (rs : List Rec) (σ : GS) (h : Heap) : kgroupsD PP cfg NN HH 72 o13 [(1, 8), (2, 4), (2, 7)] [(none, [0, 1, 2, 3, 4, 5, 6, 7, 8, 9, 10, 11, 12])] rs σ h (fun rs σ h => bif chk [(1, 8), (2, 4), (2, 7)] rs then G .nrm (σ 1) (σ 2) (σ 3) (σ 6) h else none) = g13_0 k G (σ 1) (σ 2) (σ 3) (σ 6) rs h := by kernel_rfl
@[simp] def n13 {R : Type} (k : Nat) (G : KT4 R) (v1 v2 v3 v6 : GV) (h : Heap) : Option R := g13_0 k G v1 v2 v3 v6 [] h
theorem n13_eq {R : Type} (k : Nat) (G : KT4 R) (σ : GS) (h : Heap) : KC k 72 c13 σ h (fun x σ h => G x (σ 1) (σ 2) (σ 3) (σ 6) h) = n13 k G (σ 1) (σ 2) (σ 3) (σ 6) h := (kregionD_eq (id := 13) (draw := true) (ops := o13) (gs := [(none, [0, 1, 2, 3, 4, 5, 6, 7, 8, 9, 10, 11, 12])]) (bad := [(1, 8), (2, 4), (2, 7)]) (by kernel_rfl) (by kernel_rfl) (by kernel_rfl) (by kernel_rfl) (by kernel_rfl)).trans (g13_0_eq k G [] σ h)
@[simp] def n12 {R : Type} (k : Nat) (G : KT4 R) (v1 v2 v3 v6 : GV) (h : Heap) : Option R := n13 k (fun x v1 v2 v3 v6 h => kb 5 x fun x => G x v1 v2 v3 v6 h) v1 v2 v3 v6 h
theorem n12_eq {R : Type} (k : Nat) (G : KT4 R) (σ : GS) (h : Heap) : KC k 72 c12 σ h (fun x σ h => G x (σ 1) (σ 2) (σ 3) (σ 6) h) = n12 k G (σ 1) (σ 2) (σ 3) (σ 6) h := (kblock_eq (a := c13) rfl).trans (n13_eq k (fun x v1 v2 v3 v6 h => kb 5 x fun x => G x v1 v2 v3 v6 h) σ h)
@[simp] def n10 {R : Type} (k : Nat) (G : KT4 R) (v1 v2 v3 v6 : GV) (h : Heap) : Option R := n12 k (fun x v1 v2 v3 v6 h => kx x (n11 k G v1 v2 v3 v6 h) (G x v1 v2 v3 v6 h)) v1 v2 v3 v6 h
theorem n10_eq {R : Type} (k : Nat) (G : KT4 R) (σ : GS) (h : Heap) : KC k 72 c10 σ h (fun x σ h => G x (σ 1) (σ 2) (σ 3) (σ 6) h) = n10 k G (σ 1) (σ 2) (σ 3) (σ 6) h := (kseq (b := c11) rfl (fun σ h => n11_eq k G σ h)).trans (n12_eq k (fun x v1 v2 v3 v6 h => kx x (n11 k G v1 v2 v3 v6 h) (G x v1 v2 v3 v6 h)) σ h)
noncomputable def c14 : Code := cL c9
@[simp] def n9 {R : Type} (k : Nat) (G : KT4 R) (v1 v2 v3 v6 : GV) (h : Heap) : Option R := (kfa 2 v1).bind fun v53 => (kload1 h v53).bind fun v54 => (klen v54).bind fun v55 => (kbin .lss v6 v55).bind fun v56 => kcond v56 (n10 k G v1 v2 v3 v6 h) (G (.ext 4) v1 v2 v3 v6 h)
theorem n9_eq0 {R : Type} (k : Nat) (G : KT4 R) (σ : GS) (h : Heap) : KC k 72 c14 σ h (fun x σ h => kx x (n10 k G (σ 1) (σ 2) (σ 3) (σ 6) h) (G x (σ 1) (σ 2) (σ 3) (σ 6) h)) = n9 k G (σ 1) (σ 2) (σ 3) (σ 6) h := by kernel_rfl
theorem n9_eq {R : Type} (k : Nat) (G : KT4 R) (σ : GS) (h : Heap) : KC k 72 c9 σ h (fun x σ h => G x (σ 1) (σ 2) (σ 3) (σ 6) h) = n9 k G (σ 1) (σ 2) (σ 3) (σ 6) h := (kseq (b := c10) rfl (fun σ h => n10_eq k G σ h)).trans (n9_eq0 k G σ h)
def l8 {R : Type} (k : Nat) (G : KT2 R) : Nat → GV → GV → GV → GV → Heap → Option R
  | 0, _, _, _, _, _ => none
  | r + 1, v1, v2, v3, v6, h => n9 k (fun x v1 v2 v3 v6 h => kx x (l8 k G r v1 v2 v3 v6 h) (G x v2 v3 h)) v1 v2 v3 v6 h
theorem l8_eq {R : Type} (k : Nat) (G : KT2 R) : ∀ (r : Nat) (σ : GS) (h : Heap), kloop (fun σ h K => KC k 72 c9 σ h K) r σ h (fun x σ h => G x (σ 2) (σ 3) h) = l8 k G r (σ 1) (σ 2) (σ 3) (σ 6) h
  | 0, _, _ => rfl
  | r + 1, σ, h => (kloop_eq (fun σ h => l8_eq k G r σ h)).trans (n9_eq k (fun x v1 v2 v3 v6 h => kx x (l8 k G r v1 v2 v3 v6 h) (G x v2 v3 h)) σ h)
@[simp] def n8 {R : Type} (k : Nat) (G : KT2 R) (v1 v2 v3 v6 : GV) (h : Heap) : Option R := l8 k G k v1 v2 v3 v6 h
theorem n8_eq {R : Type} (k : Nat) (G : KT2 R) (σ : GS) (h : Heap) : KC k 72 c8 σ h (fun x σ h => G x (σ 2) (σ 3) h) = n8 k G (σ 1) (σ 2) (σ 3) (σ 6) h := (kloopc_eq (a := c9) rfl).trans (l8_eq k G k σ h)
@[simp] def n7 {R : Type} (k : Nat) (G : KT2 R) (v1 v2 v3 v6 : GV) (h : Heap) : Option R := n8 k (fun x v2 v3 h => kb 4 x fun x => G x v2 v3 h) v1 v2 v3 v6 h
theorem n7_eq {R : Type} (k : Nat) (G : KT2 R) (σ : GS) (h : Heap) : KC k 72 c7 σ h (fun x σ h => G x (σ 2) (σ 3) h) = n7 k G (σ 1) (σ 2) (σ 3) (σ 6) h := (kblock_eq (a := c8) rfl).trans (n8_eq k (fun x v2 v3 h => kb 4 x fun x => G x v2 v3 h) σ h)
noncomputable def c15 : Code := cL c6
@[simp] def n6 {R : Type} (k : Nat) (G : KT2 R) (v1 v2 v3 : GV) (h : Heap) : Option R := n7 k G v1 v2 v3 (.int .i64 0) h
theorem n6_eq0 {R : Type} (k : Nat) (G : KT2 R) (σ : GS) (h : Heap) : KC k 72 c15 σ h (fun x σ h => kx x (n7 k G (σ 1) (σ 2) (σ 3) (σ 6) h) (G x (σ 2) (σ 3) h)) = n6 k G (σ 1) (σ 2) (σ 3) h := by kernel_rfl
theorem n6_eq {R : Type} (k : Nat) (G : KT2 R) (σ : GS) (h : Heap) : KC k 72 c6 σ h (fun x σ h => G x (σ 2) (σ 3) h) = n6 k G (σ 1) (σ 2) (σ 3) h := (kseq (b := c7) rfl (fun σ h => n7_eq k G σ h)).trans (n6_eq0 k G σ h)
@[simp] def n4 {R : Type} (k : Nat) (G : KT1 R) (v1 v2 v3 : GV) (h : Heap) : Option R := n6 k (fun x v2 v3 h => kx x (n5 k G v2 v3 h) (G x v2 h)) v1 v2 v3 h
theorem n4_eq {R : Type} (k : Nat) (G : KT1 R) (σ : GS) (h : Heap) : KC k 72 c4 σ h (fun x σ h => G x (σ 2) h) = n4 k G (σ 1) (σ 2) (σ 3) h := (kseq (b := c5) rfl (fun σ h => n5_eq k G σ h)).trans (n6_eq k (fun x v2 v3 h => kx x (n5 k G v2 v3 h) (G x v2 h)) σ h)
noncomputable def c16 : Code := cL c3
noncomputable def c17 : Code := cR c16
noncomputable def c18 : Code := cL c17
noncomputable def c19 : Code := cL c18
noncomputable def c20 : Code := cR c19
noncomputable def c21 : Code := cR c20
@[simp] def n21 {R : Type} (k : Nat) (G : KT4 R) (v1 v2 v3 v5 : GV) (h : Heap) : Option R := (kbin .add v5 (.int .i64 1)).bind fun v40 => G .nrm v1 v2 v3 v40 h
theorem n21_eq {R : Type} (k : Nat) (G : KT4 R) (σ : GS) (h : Heap) : KC k 72 c21 σ h (fun x σ h => G x (σ 1) (σ 2) (σ 3) (σ 5) h) = n21 k G (σ 1) (σ 2) (σ 3) (σ 5) h := by kernel_rfl
noncomputable def c22 : Code := cL c20
noncomputable def c23 : Code := cL c22
@[simp] def n23 {R : Type} (k : Nat) (G : KT4 R) (v1 v2 v3 v5 : GV) (h : Heap) : Option R := (kfa 1 v3).bind fun v41 => (kload1 h v41).bind fun v42 => (kfa 1 v1).bind fun v43 => (kload1 h v43).bind fun v44 => (kia 1 v44 v5).bind fun v46 => (kload1 h v46).bind fun v47 => (kF false HH fn.spec_l17Texts [v47] h).bind fun r => kr r fun v48 h => (gfill (fun i => some (i * 1, 1)) (zeros [.nils] 1) [(0, v48)]).bind fun c => kbs 1 1 c h fun v49 h => (kapp [.nils] 1 24 v42 v49 h).bind fun r => kr r fun v50 h => (kfa 1 v3).bind fun v51 => (kstore 1 h v51 v50).bind fun h => G .nrm v1 v2 v3 v5 h
theorem n23_eq {R : Type} (k : Nat) (G : KT4 R) (σ : GS) (h : Heap) : KC k 72 c23 σ h (fun x σ h => G x (σ 1) (σ 2) (σ 3) (σ 5) h) = n23 k G (σ 1) (σ 2) (σ 3) (σ 5) h := by kernel_rfl
@[simp] def n22 {R : Type} (k : Nat) (G : KT4 R) (v1 v2 v3 v5 : GV) (h : Heap) : Option R := n23 k (fun x v1 v2 v3 v5 h => kb 3 x fun x => G x v1 v2 v3 v5 h) v1 v2 v3 v5 h
theorem n22_eq {R : Type} (k : Nat) (G : KT4 R) (σ : GS) (h : Heap) : KC k 72 c22 σ h (fun x σ h => G x (σ 1) (σ 2) (σ 3) (σ 5) h) = n22 k G (σ 1) (σ 2) (σ 3) (σ 5) h := (kblock_eq (a := c23) rfl).trans (n23_eq k (fun x v1 v2 v3 v5 h => kb 3 x fun x => G x v1 v2 v3 v5 h) σ h)
@[simp] def n20 {R : Type} (k : Nat) (G : KT4 R) (v1 v2 v3 v5 : GV) (h : Heap) : Option R := n22 k (fun x v1 v2 v3 v5 h => kx x (n21 k G v1 v2 v3 v5 h) (G x v1 v2 v3 v5 h)) v1 v2 v3 v5 h
theorem n20_eq {R : Type} (k : Nat) (G : KT4 R) (σ : GS) (h : Heap) : KC k 72 c20 σ h (fun x σ h => G x (σ 1) (σ 2) (σ 3) (σ 5) h) = n20 k G (σ 1) (σ 2) (σ 3) (σ 5) h := (kseq (b := c21) rfl (fun σ h => n21_eq k G σ h)).trans (n22_eq k (fun x v1 v2 v3 v5 h => kx x (n21 k G v1 v2 v3 v5 h) (G x v1 v2 v3 v5 h)) σ h)
noncomputable def c24 : Code := cL c19
@[simp] def n19 {R : Type} (k : Nat) (G : KT4 R) (v1 v2 v3 v5 : GV) (h : Heap) : Option R := (kfa 1 v1).bind fun v35 => (kload1 h v35).bind fun v36 => (klen v36).bind fun v37 => (kbin .lss v5 v37).bind fun v38 => kcond v38 (n20 k G v1 v2 v3 v5 h) (G (.ext 2) v1 v2 v3 v5 h)
theorem n19_eq0 {R : Type} (k : Nat) (G : KT4 R) (σ : GS) (h : Heap) : KC k 72 c24 σ h (fun x σ h => kx x (n20 k G (σ 1) (σ 2) (σ 3) (σ 5) h) (G x (σ 1) (σ 2) (σ 3) (σ 5) h)) = n19 k G (σ 1) (σ 2) (σ 3) (σ 5) h := by kernel_rfl
theorem n19_eq {R : Type} (k : Nat) (G : KT4 R) (σ : GS) (h : Heap) : KC k 72 c19 σ h (fun x σ h => G x (σ 1) (σ 2) (σ 3) (σ 5) h) = n19 k G (σ 1) (σ 2) (σ 3) (σ 5) h := (kseq (b := c20) rfl (fun σ h => n20_eq k G σ h)).trans (n19_eq0 k G σ h)
def l18 {R : Type} (k : Nat) (G : KT3 R) : Nat → GV → GV → GV → GV → Heap → Option R
  | 0, _, _, _, _, _ => none
  | r + 1, v1, v2, v3, v5, h => n19 k (fun x v1 v2 v3 v5 h => kx x (l18 k G r v1 v2 v3 v5 h) (G x v1 v2 v3 h)) v1 v2 v3 v5 h
theorem l18_eq {R : Type} (k : Nat) (G : KT3 R) : ∀ (r : Nat) (σ : GS) (h : Heap), kloop (fun σ h K => KC k 72 c19 σ h K) r σ h (fun x σ h => G x (σ 1) (σ 2) (σ 3) h) = l18 k G r (σ 1) (σ 2) (σ 3) (σ 5) h
  | 0, _, _ => rfl
  | r + 1, σ, h => (kloop_eq (fun σ h => l18_eq k G r σ h)).trans (n19_eq k (fun x v1 v2 v3 v5 h => kx x (l18 k G r v1 v2 v3 v5 h) (G x v1 v2 v3 h)) σ h)
@[simp] def n18 {R : Type} (k : Nat) (G : KT3 R) (v1 v2 v3 v5 : GV) (h : Heap) : Option R := l18 k G k v1 v2 v3 v5 h
theorem n18_eq {R : Type} (k : Nat) (G : KT3 R) (σ : GS) (h : Heap) : KC k 72 c18 σ h (fun x σ h => G x (σ 1) (σ 2) (σ 3) h) = n18 k G (σ 1) (σ 2) (σ 3) (σ 5) h := (kloopc_eq (a := c19) rfl).trans (l18_eq k G k σ h)
@[simp] def n17 {R : Type} (k : Nat) (G : KT3 R) (v1 v2 v3 v5 : GV) (h : Heap) : Option R := n18 k (fun x v1 v2 v3 h => kb 2 x fun x => G x v1 v2 v3 h) v1 v2 v3 v5 h
theorem n17_eq {R : Type} (k : Nat) (G : KT3 R) (σ : GS) (h : Heap) : KC k 72 c17 σ h (fun x σ h => G x (σ 1) (σ 2) (σ 3) h) = n17 k G (σ 1) (σ 2) (σ 3) (σ 5) h := (kblock_eq (a := c18) rfl).trans (n18_eq k (fun x v1 v2 v3 h => kb 2 x fun x => G x v1 v2 v3 h) σ h)
noncomputable def c25 : Code := cL c16
@[simp] def n16 {R : Type} (k : Nat) (G : KT3 R) (v1 v2 v3 : GV) (h : Heap) : Option R := n17 k G v1 v2 v3 (.int .i64 0) h
theorem n16_eq0 {R : Type} (k : Nat) (G : KT3 R) (σ : GS) (h : Heap) : KC k 72 c25 σ h (fun x σ h => kx x (n17 k G (σ 1) (σ 2) (σ 3) (σ 5) h) (G x (σ 1) (σ 2) (σ 3) h)) = n16 k G (σ 1) (σ 2) (σ 3) h := by kernel_rfl
theorem n16_eq {R : Type} (k : Nat) (G : KT3 R) (σ : GS) (h : Heap) : KC k 72 c16 σ h (fun x σ h => G x (σ 1) (σ 2) (σ 3) h) = n16 k G (σ 1) (σ 2) (σ 3) h := (kseq (b := c17) rfl (fun σ h => n17_eq k G σ h)).trans (n16_eq0 k G σ h)
@[simp] def n3 {R : Type} (k : Nat) (G : KT1 R) (v1 v2 v3 : GV) (h : Heap) : Option R := n16 k (fun x v1 v2 v3 h => kx x (n4 k G v1 v2 v3 h) (G x v2 h)) v1 v2 v3 h
theorem n3_eq {R : Type} (k : Nat) (G : KT1 R) (σ : GS) (h : Heap) : KC k 72 c3 σ h (fun x σ h => G x (σ 2) h) = n3 k G (σ 1) (σ 2) (σ 3) h := (kseq (b := c4) rfl (fun σ h => n4_eq k G σ h)).trans (n16_eq k (fun x v1 v2 v3 h => kx x (n4 k G v1 v2 v3 h) (G x v2 h)) σ h)
noncomputable def c26 : Code := cL c2
noncomputable def c27 : Code := cR c26
noncomputable def c28 : Code := cL c27
noncomputable def c29 : Code := cL c28
noncomputable def c30 : Code := cR c29
noncomputable def c31 : Code := cR c30
@[simp] def n31 {R : Type} (k : Nat) (G : KT4 R) (v1 v2 v3 v4 : GV) (h : Heap) : Option R := (kbin .add v4 (.int .i64 1)).bind fun v14 => G .nrm v1 v2 v3 v14 h
theorem n31_eq {R : Type} (k : Nat) (G : KT4 R) (σ : GS) (h : Heap) : KC k 72 c31 σ h (fun x σ h => G x (σ 1) (σ 2) (σ 3) (σ 4) h) = n31 k G (σ 1) (σ 2) (σ 3) (σ 4) h := by kernel_rfl
noncomputable def c32 : Code := cL c30
noncomputable def c33 : Code := cL c32
noncomputable def o33 : Array Oper := cO c33
@[simp] def g33_0 {R : Type} (k : Nat) (G : KT4 R) (v1 v2 v3 v4 : GV) (rs : List Rec) (h : Heap) : Option R := (kfa 0 v3).bind fun v15 => (kload1 h v15).bind fun v16 => (kfa 0 v1).bind fun v17 => (kload1 h v17).bind fun v18 => (kia 2 v18 v4).bind fun v20 => (kfa 0 v20).bind fun v21 => (kload1 h v21).bind fun v22 => kold h fun h0 => (kF false HH fn.spec_l17Texts [v22] h).bind fun r => kr r fun v23 h => krs (rs ++ [⟨8, h0.length, h.length, ⟨[v22].flatMap (kborr h0), []⟩⟩]) fun rs => (kfa 0 v1).bind fun v24 => kold h fun h0 => (kload1 h v24).bind fun v25 => krs (rs ++ [⟨10, h0.length, h.length, ⟨kblk v24, []⟩⟩]) fun rs => (kia 2 v25 v4).bind fun v27 => (kfa 1 v27).bind fun v28 => kold h fun h0 => (kload1 h v28).bind fun v29 => krs (rs ++ [⟨14, h0.length, h.length, ⟨kblk v28, []⟩⟩]) fun rs => (gfill (fun i => [(0, 1), (1, 1)][i]?) [.nils, (.int .i64 0)] [(0, v23), (1, v29)]).bind fun c => kagg c h fun v30 h => (gfill (fun i => some (i * 2, 2)) (zeros [.nils, (.int .i64 0)] 1) [(0, v30)]).bind fun c => kbs 1 2 c h fun v31 h => (kapp [.nils, (.int .i64 0)] 2 32 v16 v31 h).bind fun r => kr r fun v32 h => (kfa 0 v3).bind fun v33 => (kstore 1 h v33 v32).bind fun h => bif chk [(8, 10), (8, 14)] rs then G .nrm v1 v2 v3 v4 h else none
theorem g33_0_eq {R : Type} (k : Nat) (G : KT4 R) (rs : List Rec) (σ : GS) (h : Heap) : kgroupsD PP cfg NN HH 72 o33 [(8, 10), (8, 14)] [(none, [0, 1, 2, 3, 4, 5, 6, 7, 8, 9, 10, 11, 12, 13, 14, 15, 16, 17, 18, 19])] rs σ h (fun rs σ h => bif chk [(8, 10), (8, 14)] rs then G .nrm (σ 1) (σ 2) (σ 3) (σ 4) h else none) = g33_0 k G (σ 1) (σ 2) (σ 3) (σ 4) rs h := by kernel_rfl
@[simp] def n33 {R : Type} (k : Nat) (G : KT4 R) (v1 v2 v3 v4 : GV) (h : Heap) : Option R := g33_0 k G v1 v2 v3 v4 [] h
theorem n33_eq {R : Type} (k : Nat) (G : KT4 R) (σ : GS) (h : Heap) : KC k 72 c33 σ h (fun x σ h => G x (σ 1) (σ 2) (σ 3) (σ 4) h) = n33 k G (σ 1) (σ 2) (σ 3) (σ 4) h := (kregionD_eq (id := 5) (draw := true) (ops := o33) (gs := [(none, [0, 1, 2, 3, 4, 5, 6, 7, 8, 9, 10, 11, 12, 13, 14, 15, 16, 17, 18, 19])]) (bad := [(8, 10), (8, 14)]) (by kernel_rfl) (by kernel_rfl) (by kernel_rfl) (by kernel_rfl) (by kernel_rfl)).trans (g33_0_eq k G [] σ h)
@[simp] def n32 {R : Type} (k : Nat) (G : KT4 R) (v1 v2 v3 v4 : GV) (h : Heap) : Option R := n33 k (fun x v1 v2 v3 v4 h => kb 1 x fun x => G x v1 v2 v3 v4 h) v1 v2 v3 v4 h
theorem n32_eq {R : Type} (k : Nat) (G : KT4 R) (σ : GS) (h : Heap) : KC k 72 c32 σ h (fun x σ h => G x (σ 1) (σ 2) (σ 3) (σ 4) h) = n32 k G (σ 1) (σ 2) (σ 3) (σ 4) h := (kblock_eq (a := c33) rfl).trans (n33_eq k (fun x v1 v2 v3 v4 h => kb 1 x fun x => G x v1 v2 v3 v4 h) σ h)
@[simp] def n30 {R : Type} (k : Nat) (G : KT4 R) (v1 v2 v3 v4 : GV) (h : Heap) : Option R := n32 k (fun x v1 v2 v3 v4 h => kx x (n31 k G v1 v2 v3 v4 h) (G x v1 v2 v3 v4 h)) v1 v2 v3 v4 h
theorem n30_eq {R : Type} (k : Nat) (G : KT4 R) (σ : GS) (h : Heap) : KC k 72 c30 σ h (fun x σ h => G x (σ 1) (σ 2) (σ 3) (σ 4) h) = n30 k G (σ 1) (σ 2) (σ 3) (σ 4) h := (kseq (b := c31) rfl (fun σ h => n31_eq k G σ h)).trans (n32_eq k (fun x v1 v2 v3 v4 h => kx x (n31 k G v1 v2 v3 v4 h) (G x v1 v2 v3 v4 h)) σ h)
noncomputable def c34 : Code := cL c29
@[simp] def n29 {R : Type} (k : Nat) (G : KT4 R) (v1 v2 v3 v4 : GV) (h : Heap) : Option R := (kfa 0 v1).bind fun v9 => (kload1 h v9).bind fun v10 => (klen v10).bind fun v11 => (kbin .lss v4 v11).bind fun v12 => kcond v12 (n30 k G v1 v2 v3 v4 h) (G (.ext 0) v1 v2 v3 v4 h)
theorem n29_eq0 {R : Type} (k : Nat) (G : KT4 R) (σ : GS) (h : Heap) : KC k 72 c34 σ h (fun x σ h => kx x (n30 k G (σ 1) (σ 2) (σ 3) (σ 4) h) (G x (σ 1) (σ 2) (σ 3) (σ 4) h)) = n29 k G (σ 1) (σ 2) (σ 3) (σ 4) h := by kernel_rfl
theorem n29_eq {R : Type} (k : Nat) (G : KT4 R) (σ : GS) (h : Heap) : KC k 72 c29 σ h (fun x σ h => G x (σ 1) (σ 2) (σ 3) (σ 4) h) = n29 k G (σ 1) (σ 2) (σ 3) (σ 4) h := (kseq (b := c30) rfl (fun σ h => n30_eq k G σ h)).trans (n29_eq0 k G σ h)
def l28 {R : Type} (k : Nat) (G : KT3 R) : Nat → GV → GV → GV → GV → Heap → Option R
  | 0, _, _, _, _, _ => none
  | r + 1, v1, v2, v3, v4, h => n29 k (fun x v1 v2 v3 v4 h => kx x (l28 k G r v1 v2 v3 v4 h) (G x v1 v2 v3 h)) v1 v2 v3 v4 h
theorem l28_eq {R : Type} (k : Nat) (G : KT3 R) : ∀ (r : Nat) (σ : GS) (h : Heap), kloop (fun σ h K => KC k 72 c29 σ h K) r σ h (fun x σ h => G x (σ 1) (σ 2) (σ 3) h) = l28 k G r (σ 1) (σ 2) (σ 3) (σ 4) h
  | 0, _, _ => rfl
  | r + 1, σ, h => (kloop_eq (fun σ h => l28_eq k G r σ h)).trans (n29_eq k (fun x v1 v2 v3 v4 h => kx x (l28 k G r v1 v2 v3 v4 h) (G x v1 v2 v3 h)) σ h)
@[simp] def n28 {R : Type} (k : Nat) (G : KT3 R) (v1 v2 v3 v4 : GV) (h : Heap) : Option R := l28 k G k v1 v2 v3 v4 h
theorem n28_eq {R : Type} (k : Nat) (G : KT3 R) (σ : GS) (h : Heap) : KC k 72 c28 σ h (fun x σ h => G x (σ 1) (σ 2) (σ 3) h) = n28 k G (σ 1) (σ 2) (σ 3) (σ 4) h := (kloopc_eq (a := c29) rfl).trans (l28_eq k G k σ h)
@[simp] def n27 {R : Type} (k : Nat) (G : KT3 R) (v1 v2 v3 v4 : GV) (h : Heap) : Option R := n28 k (fun x v1 v2 v3 h => kb 0 x fun x => G x v1 v2 v3 h) v1 v2 v3 v4 h
theorem n27_eq {R : Type} (k : Nat) (G : KT3 R) (σ : GS) (h : Heap) : KC k 72 c27 σ h (fun x σ h => G x (σ 1) (σ 2) (σ 3) h) = n27 k G (σ 1) (σ 2) (σ 3) (σ 4) h := (kblock_eq (a := c28) rfl).trans (n28_eq k (fun x v1 v2 v3 h => kb 0 x fun x => G x v1 v2 v3 h) σ h)
noncomputable def c35 : Code := cL c26
@[simp] def n26 {R : Type} (k : Nat) (G : KT3 R) (v1 v2 v3 : GV) (h : Heap) : Option R := n27 k G v1 v2 v3 (.int .i64 0) h
theorem n26_eq0 {R : Type} (k : Nat) (G : KT3 R) (σ : GS) (h : Heap) : KC k 72 c35 σ h (fun x σ h => kx x (n27 k G (σ 1) (σ 2) (σ 3) (σ 4) h) (G x (σ 1) (σ 2) (σ 3) h)) = n26 k G (σ 1) (σ 2) (σ 3) h := by kernel_rfl
theorem n26_eq {R : Type} (k : Nat) (G : KT3 R) (σ : GS) (h : Heap) : KC k 72 c26 σ h (fun x σ h => G x (σ 1) (σ 2) (σ 3) h) = n26 k G (σ 1) (σ 2) (σ 3) h := (kseq (b := c27) rfl (fun σ h => n27_eq k G σ h)).trans (n26_eq0 k G σ h)
@[simp] def n2 {R : Type} (k : Nat) (G : KT1 R) (v1 v2 v3 : GV) (h : Heap) : Option R := n26 k (fun x v1 v2 v3 h => kx x (n3 k G v1 v2 v3 h) (G x v2 h)) v1 v2 v3 h
theorem n2_eq {R : Type} (k : Nat) (G : KT1 R) (σ : GS) (h : Heap) : KC k 72 c2 σ h (fun x σ h => G x (σ 2) h) = n2 k G (σ 1) (σ 2) (σ 3) h := (kseq (b := c3) rfl (fun σ h => n3_eq k G σ h)).trans (n26_eq k (fun x v1 v2 v3 h => kx x (n3 k G v1 v2 v3 h) (G x v2 h)) σ h)
noncomputable def c36 : Code := cL c1
@[simp] def n1 {R : Type} (k : Nat) (G : KT1 R) (v1 v2 : GV) (h : Heap) : Option R := (gfill (fun i => [(0, 1), (1, 1), (2, 1)][i]?) [.nils, .nils, .nils] []).bind fun c => kagg c h fun v7 h => kalloc [.nils, .nils, .nils] h fun v3 h => (kstore 3 h v3 v7).bind fun h => n2 k G v1 v2 v3 h
theorem n1_eq0 {R : Type} (k : Nat) (G : KT1 R) (σ : GS) (h : Heap) : KC k 72 c36 σ h (fun x σ h => kx x (n2 k G (σ 1) (σ 2) (σ 3) h) (G x (σ 2) h)) = n1 k G (σ 1) (σ 2) h := by kernel_rfl
theorem n1_eq {R : Type} (k : Nat) (G : KT1 R) (σ : GS) (h : Heap) : KC k 72 c1 σ h (fun x σ h => G x (σ 2) h) = n1 k G (σ 1) (σ 2) h := (kseq (b := c2) rfl (fun σ h => n2_eq k G σ h)).trans (n1_eq0 k G σ h)
noncomputable def c37 : Code := cL c0
@[simp] def n0 {R : Type} (k : Nat) (G : KT1 R) (v0 : GV) (h : Heap) : Option R := kbox v0 h fun v1 h => kalloc [.nils, .nils, .nils] h fun v2 h => n1 k G v1 v2 h
theorem n0_eq0 {R : Type} (k : Nat) (G : KT1 R) (σ : GS) (h : Heap) : KC k 72 c37 σ h (fun x σ h => kx x (n1 k G (σ 1) (σ 2) h) (G x (σ 2) h)) = n0 k G (σ 0) h := by kernel_rfl
theorem n0_eq {R : Type} (k : Nat) (G : KT1 R) (σ : GS) (h : Heap) : KC k 72 c0 σ h (fun x σ h => G x (σ 2) h) = n0 k G (σ 0) h := (kseq (b := c1) rfl (fun σ h => n1_eq k G σ h)).trans (n0_eq0 k G σ h)
def run {R : Type} (k : Nat) (a0 : GV) (h : Heap) (fin : GV → Heap → Option R) : Option R := n0 k (fun x v2 h => kend x ((kloadA 3 h v2).bind fun w2 => fin w2 h)) a0 h
theorem run_eq {R : Type} (k : Nat) (a0 : GV) (h : Heap) (fin : GV → Heap → Option R) : kfun PP cfg NN HH k fn.spec_l17Copy [a0] h fin = run k a0 h fin := (kfun_eq (nt := 72) (c := c0) (show PP.funcs[fn.spec_l17Copy]? = some Try.f68 by kernel_rfl) (by kernel_rfl) (by kernel_rfl) (fun x σ h => by cases x <;> kernel_rfl)).trans (n0_eq k (fun x v2 h => kend x ((kloadA 3 h v2).bind fun w2 => fin w2 h)) _ h)
theorem gives {k : Nat} {a0 : GV} {b : Nat} {q : GV × List (List GV)} (e : run k a0 [] (finO b) = some q) : OO fn.spec_l17Copy [a0] b = some q := oω_of ((run_eq k a0 [] (finO b)).trans e)
end S.spec_l17Copy
/-! impl_changed -/
namespace S.impl_changed
noncomputable def c0 : Code := bodyOf Try.f70
@[simp] def n0 {R : Type} (k : Nat) (G : KT2 R) (v0 v1 : GV) (h : Heap) : Option R := kbox v0 h fun v2 h => kalloc [.nils, .nils, .nils] h fun v4 h => (kloadA 3 h v2).bind fun v7 => (kN NN fn.impl_ChainOk [v7] h).bind fun v8 => (kun .not v8).bind fun v9 => kcond v9 ((gfill (fun i => [(0, 1), (1, 1), (2, 1)][i]?) [.nils, .nils, .nils] []).bind fun c => kagg c h fun v10 h => (kstore 3 h v4 v10).bind fun h => G .ret v4 (.bool false) h) ((kloadA 3 h v2).bind fun v11 => (kF false HH fn.impl_Chain_copied [v11] h).bind fun r => kr r fun v12 h => kalloc [.nils, .nils, .nils] h fun v6 h => (kstore 3 h v6 v12).bind fun h => kval v1 [v6] h fun v14 h => (kun .not v14).bind fun v15 => kcond v15 ((kloadA 3 h v2).bind fun v16 => (kF false HH fn.impl_Chain_copied [v16] h).bind fun r => kr r fun v17 h => (kstore 3 h v4 v17).bind fun h => G .ret v4 (.bool false) h) ((kloadA 3 h v6).bind fun v18 => (kstore 3 h v4 v18).bind fun h => G .ret v4 (.bool true) h))
theorem n0_eq {R : Type} (k : Nat) (G : KT2 R) (σ : GS) (h : Heap) : KC k 19 c0 σ h (fun x σ h => G x (σ 4) (σ 5) h) = n0 k G (σ 0) (σ 1) h := by kernel_rfl
def run {R : Type} (k : Nat) (a0 : GV) (a1 : GV) (h : Heap) (fin : GV → Heap → Option R) : Option R := n0 k (fun x v4 v5 h => kend x ((kloadA 3 h v4).bind fun w4 => fin (.tup [w4, v5]) h)) a0 a1 h
theorem run_eq {R : Type} (k : Nat) (a0 : GV) (a1 : GV) (h : Heap) (fin : GV → Heap → Option R) : kfun PP cfg NN HH k fn.impl_changed [a0, a1] h fin = run k a0 a1 h fin := (kfun_eq (nt := 19) (c := c0) (show PP.funcs[fn.impl_changed]? = some Try.f70 by kernel_rfl) (by kernel_rfl) (by kernel_rfl) (fun x σ h => by cases x <;> kernel_rfl)).trans (n0_eq k (fun x v4 v5 h => kend x ((kloadA 3 h v4).bind fun w4 => fin (.tup [w4, v5]) h)) _ h)
theorem gives {k : Nat} {a0 : GV} {a1 : GV} {b : Nat} {q : GV × List (List GV)} (e : run k a0 a1 [] (finO b) = some q) : OO fn.impl_changed [a0, a1] b = some q := oω_of ((run_eq k a0 a1 [] (finO b)).trans e)
end S.impl_changed
/-! impl_Chain_last -/
namespace S.impl_Chain_last
noncomputable def c0 : Code := bodyOf Try.f72
@[simp] def n0 {R : Type} (k : Nat) (G : KT1 R) (v0 : GV) (h : Heap) : Option R := kbox v0 h fun v1 h => (kfa 0 v1).bind fun v3 => (kload1 h v3).bind fun v4 => (klen v4).bind fun v5 => (kbin .sub v5 (.int .i64 1)).bind fun v6 => G .ret v6 h
theorem n0_eq {R : Type} (k : Nat) (G : KT1 R) (σ : GS) (h : Heap) : KC k 7 c0 σ h (fun x σ h => G x (σ 2) h) = n0 k G (σ 0) h := by kernel_rfl
def run {R : Type} (k : Nat) (a0 : GV) (h : Heap) (fin : GV → Heap → Option R) : Option R := n0 k (fun x v2 h => kend x (fin v2 h)) a0 h
theorem run_eq {R : Type} (k : Nat) (a0 : GV) (h : Heap) (fin : GV → Heap → Option R) : kfun PP cfg NN HH k fn.impl_Chain_last [a0] h fin = run k a0 h fin := (kfun_eq (nt := 7) (c := c0) (show PP.funcs[fn.impl_Chain_last]? = some Try.f72 by kernel_rfl) (by kernel_rfl) (by kernel_rfl) (fun x σ h => by cases x <;> kernel_rfl)).trans (n0_eq k (fun x v2 h => kend x (fin v2 h)) _ h)
theorem gives {k : Nat} {a0 : GV} {v : GV} (e : run k a0 [] finN = some v) : NN fn.impl_Chain_last [a0] = some v := nω_of (by kernel_rfl) ((run_eq k a0 [] finN).trans e)
end S.impl_Chain_last
/-! impl_in -/
namespace S.impl_in
noncomputable def c0 : Code := bodyOf Try.f80
noncomputable def c1 : Code := cR c0
noncomputable def c2 : Code := cR c1
@[simp] def n2 {R : Type} (k : Nat) (G : KT1 R) (v6 : GV) (h : Heap) : Option R := G .ret v6 h
theorem n2_eq {R : Type} (k : Nat) (G : KT1 R) (σ : GS) (h : Heap) : KC k 15 c2 σ h (fun x σ h => G x (σ 6) h) = n2 k G (σ 6) h := by kernel_rfl
noncomputable def c3 : Code := cL c1
noncomputable def o3 : Array Oper := cO c3
@[simp] def g3_2 {R : Type} (k : Nat) (G : KT1 R) (v10 v13 : GV) (h : Heap) : Option R := (kpick v10 v13 (.bool false)).bind fun v14 => G .nrm v14 h
theorem g3_2_eq {R : Type} (k : Nat) (G : KT1 R) (σ : GS) (h : Heap) : kgroups PP cfg NN HH 15 o3 [(none, [7, 8])] σ h (fun σ h => G .nrm (σ 6) h) = g3_2 k G (σ 10) (σ 13) h := by kernel_rfl
@[simp] def g3_1 {R : Type} (k : Nat) (G : KT1 R) (v0 v2 v10 : GV) (h : Heap) : Option R := bif tr true v10 then (kbin .leq v0 v2).bind fun v13 => g3_2 k G v10 v13 h else g3_2 k G v10 .un h
theorem g3_1_eq0 {R : Type} (k : Nat) (G : KT1 R) (σ : GS) (h : Heap) : kgroup1 PP cfg NN HH 15 o3 (some (3, true), [4, 5, 6]) σ h (fun σ h => g3_2 k G (σ 10) (σ 13) h) = g3_1 k G (σ 0) (σ 2) (σ 10) h := by kernel_rfl
theorem g3_1_eq {R : Type} (k : Nat) (G : KT1 R) (σ : GS) (h : Heap) : kgroups PP cfg NN HH 15 o3 [(some (3, true), [4, 5, 6]), (none, [7, 8])] σ h (fun σ h => G .nrm (σ 6) h) = g3_1 k G (σ 0) (σ 2) (σ 10) h := (kgroups_cons (fun σ h => g3_2_eq k G σ h)).trans (g3_1_eq0 k G σ h)
@[simp] def g3_0 {R : Type} (k : Nat) (G : KT1 R) (v0 v1 v2 : GV) (h : Heap) : Option R := (kbin .leq v1 v0).bind fun v9 => g3_1 k G v0 v2 v9 h
theorem g3_0_eq0 {R : Type} (k : Nat) (G : KT1 R) (σ : GS) (h : Heap) : kgroup1 PP cfg NN HH 15 o3 (none, [0, 1, 2, 3]) σ h (fun σ h => g3_1 k G (σ 0) (σ 2) (σ 10) h) = g3_0 k G (σ 0) (σ 1) (σ 2) h := by kernel_rfl
theorem g3_0_eq {R : Type} (k : Nat) (G : KT1 R) (σ : GS) (h : Heap) : kgroups PP cfg NN HH 15 o3 [(none, [0, 1, 2, 3]), (some (3, true), [4, 5, 6]), (none, [7, 8])] σ h (fun σ h => G .nrm (σ 6) h) = g3_0 k G (σ 0) (σ 1) (σ 2) h := (kgroups_cons (fun σ h => g3_1_eq k G σ h)).trans (g3_0_eq0 k G σ h)
@[simp] def n3 {R : Type} (k : Nat) (G : KT1 R) (v0 v1 v2 : GV) (h : Heap) : Option R := g3_0 k G v0 v1 v2 h
theorem n3_eq {R : Type} (k : Nat) (G : KT1 R) (σ : GS) (h : Heap) : KC k 15 c3 σ h (fun x σ h => G x (σ 6) h) = n3 k G (σ 0) (σ 1) (σ 2) h := (kregion_eq (id := 1) (draw := false) (ops := o3) (gs := [(none, [0, 1, 2, 3]), (some (3, true), [4, 5, 6]), (none, [7, 8])]) (by kernel_rfl) (by kernel_rfl) (by kernel_rfl)).trans (g3_0_eq k G σ h)
@[simp] def n1 {R : Type} (k : Nat) (G : KT1 R) (v0 v1 v2 : GV) (h : Heap) : Option R := n3 k (fun x v6 h => kx x (n2 k G v6 h) (G x v6 h)) v0 v1 v2 h
theorem n1_eq {R : Type} (k : Nat) (G : KT1 R) (σ : GS) (h : Heap) : KC k 15 c1 σ h (fun x σ h => G x (σ 6) h) = n1 k G (σ 0) (σ 1) (σ 2) h := (kseq (b := c2) rfl (fun σ h => n2_eq k G σ h)).trans (n3_eq k (fun x v6 h => kx x (n2 k G v6 h) (G x v6 h)) σ h)
noncomputable def c4 : Code := cL c0
@[simp] def n0 {R : Type} (k : Nat) (G : KT1 R) (v0 v1 v2 : GV) (h : Heap) : Option R := n1 k G v0 v1 v2 h
theorem n0_eq0 {R : Type} (k : Nat) (G : KT1 R) (σ : GS) (h : Heap) : KC k 15 c4 σ h (fun x σ h => kx x (n1 k G (σ 0) (σ 1) (σ 2) h) (G x (σ 6) h)) = n0 k G (σ 0) (σ 1) (σ 2) h := by kernel_rfl
theorem n0_eq {R : Type} (k : Nat) (G : KT1 R) (σ : GS) (h : Heap) : KC k 15 c0 σ h (fun x σ h => G x (σ 6) h) = n0 k G (σ 0) (σ 1) (σ 2) h := (kseq (b := c1) rfl (fun σ h => n1_eq k G σ h)).trans (n0_eq0 k G σ h)
def run {R : Type} (k : Nat) (a0 : GV) (a1 : GV) (a2 : GV) (h : Heap) (fin : GV → Heap → Option R) : Option R := n0 k (fun x v6 h => kend x (fin v6 h)) a0 a1 a2 h
theorem run_eq {R : Type} (k : Nat) (a0 : GV) (a1 : GV) (a2 : GV) (h : Heap) (fin : GV → Heap → Option R) : kfun PP cfg NN HH k fn.impl_in [a0, a1, a2] h fin = run k a0 a1 a2 h fin := (kfun_eq (nt := 15) (c := c0) (show PP.funcs[fn.impl_in]? = some Try.f80 by kernel_rfl) (by kernel_rfl) (by kernel_rfl) (fun x σ h => by cases x <;> kernel_rfl)).trans (n0_eq k (fun x v6 h => kend x (fin v6 h)) _ h)
theorem gives {k : Nat} {a0 : GV} {a1 : GV} {a2 : GV} {v : GV} (e : run k a0 a1 a2 [] finN = some v) : NN fn.impl_in [a0, a1, a2] = some v := nω_of (by kernel_rfl) ((run_eq k a0 a1 a2 [] finN).trans e)
end S.impl_in
/-! spec_l1In -/
namespace S.spec_l1In
noncomputable def c0 : Code := bodyOf Try.f88
noncomputable def c1 : Code := cR c0
noncomputable def c2 : Code := cR c1
@[simp] def n2 {R : Type} (k : Nat) (G : KT1 R) (v6 : GV) (h : Heap) : Option R := G .ret v6 h
theorem n2_eq {R : Type} (k : Nat) (G : KT1 R) (σ : GS) (h : Heap) : KC k 15 c2 σ h (fun x σ h => G x (σ 6) h) = n2 k G (σ 6) h := by kernel_rfl
noncomputable def c3 : Code := cL c1
noncomputable def o3 : Array Oper := cO c3
@[simp] def g3_2 {R : Type} (k : Nat) (G : KT1 R) (v10 v13 : GV) (h : Heap) : Option R := (kpick v10 v13 (.bool false)).bind fun v14 => G .nrm v14 h
theorem g3_2_eq {R : Type} (k : Nat) (G : KT1 R) (σ : GS) (h : Heap) : kgroups PP cfg NN HH 15 o3 [(none, [7, 8])] σ h (fun σ h => G .nrm (σ 6) h) = g3_2 k G (σ 10) (σ 13) h := by kernel_rfl
@[simp] def g3_1 {R : Type} (k : Nat) (G : KT1 R) (v0 v2 v10 : GV) (h : Heap) : Option R := bif tr true v10 then (kbin .leq v0 v2).bind fun v13 => g3_2 k G v10 v13 h else g3_2 k G v10 .un h
theorem g3_1_eq0 {R : Type} (k : Nat) (G : KT1 R) (σ : GS) (h : Heap) : kgroup1 PP cfg NN HH 15 o3 (some (3, true), [4, 5, 6]) σ h (fun σ h => g3_2 k G (σ 10) (σ 13) h) = g3_1 k G (σ 0) (σ 2) (σ 10) h := by kernel_rfl
theorem g3_1_eq {R : Type} (k : Nat) (G : KT1 R) (σ : GS) (h : Heap) : kgroups PP cfg NN HH 15 o3 [(some (3, true), [4, 5, 6]), (none, [7, 8])] σ h (fun σ h => G .nrm (σ 6) h) = g3_1 k G (σ 0) (σ 2) (σ 10) h := (kgroups_cons (fun σ h => g3_2_eq k G σ h)).trans (g3_1_eq0 k G σ h)
@[simp] def g3_0 {R : Type} (k : Nat) (G : KT1 R) (v0 v1 v2 : GV) (h : Heap) : Option R := (kbin .geq v0 v1).bind fun v9 => g3_1 k G v0 v2 v9 h
theorem g3_0_eq0 {R : Type} (k : Nat) (G : KT1 R) (σ : GS) (h : Heap) : kgroup1 PP cfg NN HH 15 o3 (none, [0, 1, 2, 3]) σ h (fun σ h => g3_1 k G (σ 0) (σ 2) (σ 10) h) = g3_0 k G (σ 0) (σ 1) (σ 2) h := by kernel_rfl
theorem g3_0_eq {R : Type} (k : Nat) (G : KT1 R) (σ : GS) (h : Heap) : kgroups PP cfg NN HH 15 o3 [(none, [0, 1, 2, 3]), (some (3, true), [4, 5, 6]), (none, [7, 8])] σ h (fun σ h => G .nrm (σ 6) h) = g3_0 k G (σ 0) (σ 1) (σ 2) h := (kgroups_cons (fun σ h => g3_1_eq k G σ h)).trans (g3_0_eq0 k G σ h)
@[simp] def n3 {R : Type} (k : Nat) (G : KT1 R) (v0 v1 v2 : GV) (h : Heap) : Option R := g3_0 k G v0 v1 v2 h
theorem n3_eq {R : Type} (k : Nat) (G : KT1 R) (σ : GS) (h : Heap) : KC k 15 c3 σ h (fun x σ h => G x (σ 6) h) = n3 k G (σ 0) (σ 1) (σ 2) h := (kregion_eq (id := 1) (draw := false) (ops := o3) (gs := [(none, [0, 1, 2, 3]), (some (3, true), [4, 5, 6]), (none, [7, 8])]) (by kernel_rfl) (by kernel_rfl) (by kernel_rfl)).trans (g3_0_eq k G σ h)
@[simp] def n1 {R : Type} (k : Nat) (G : KT1 R) (v0 v1 v2 : GV) (h : Heap) : Option R := n3 k (fun x v6 h => kx x (n2 k G v6 h) (G x v6 h)) v0 v1 v2 h
theorem n1_eq {R : Type} (k : Nat) (G : KT1 R) (σ : GS) (h : Heap) : KC k 15 c1 σ h (fun x σ h => G x (σ 6) h) = n1 k G (σ 0) (σ 1) (σ 2) h := (kseq (b := c2) rfl (fun σ h => n2_eq k G σ h)).trans (n3_eq k (fun x v6 h => kx x (n2 k G v6 h) (G x v6 h)) σ h)
noncomputable def c4 : Code := cL c0
@[simp] def n0 {R : Type} (k : Nat) (G : KT1 R) (v0 v1 v2 : GV) (h : Heap) : Option R := n1 k G v0 v1 v2 h
theorem n0_eq0 {R : Type} (k : Nat) (G : KT1 R) (σ : GS) (h : Heap) : KC k 15 c4 σ h (fun x σ h => kx x (n1 k G (σ 0) (σ 1) (σ 2) h) (G x (σ 6) h)) = n0 k G (σ 0) (σ 1) (σ 2) h := by kernel_rfl
theorem n0_eq {R : Type} (k : Nat) (G : KT1 R) (σ : GS) (h : Heap) : KC k 15 c0 σ h (fun x σ h => G x (σ 6) h) = n0 k G (σ 0) (σ 1) (σ 2) h := (kseq (b := c1) rfl (fun σ h => n1_eq k G σ h)).trans (n0_eq0 k G σ h)
def run {R : Type} (k : Nat) (a0 : GV) (a1 : GV) (a2 : GV) (h : Heap) (fin : GV → Heap → Option R) : Option R := n0 k (fun x v6 h => kend x (fin v6 h)) a0 a1 a2 h
theorem run_eq {R : Type} (k : Nat) (a0 : GV) (a1 : GV) (a2 : GV) (h : Heap) (fin : GV → Heap → Option R) : kfun PP cfg NN HH k fn.spec_l1In [a0, a1, a2] h fin = run k a0 a1 a2 h fin := (kfun_eq (nt := 15) (c := c0) (show PP.funcs[fn.spec_l1In]? = some Try.f88 by kernel_rfl) (by kernel_rfl) (by kernel_rfl) (fun x σ h => by cases x <;> kernel_rfl)).trans (n0_eq k (fun x v6 h => kend x (fin v6 h)) _ h)
theorem gives {k : Nat} {a0 : GV} {a1 : GV} {a2 : GV} {v : GV} (e : run k a0 a1 a2 [] finN = some v) : NN fn.spec_l1In [a0, a1, a2] = some v := nω_of (by kernel_rfl) ((run_eq k a0 a1 a2 [] finN).trans e)
end S.spec_l1In
/-! spec_l17Same -/
namespace S.spec_l17Same
noncomputable def c0 : Code := bodyOf Try.f89
noncomputable def c1 : Code := cR c0
noncomputable def c2 : Code := cR c1
noncomputable def c3 : Code := cR c2
@[simp] def n3 {R : Type} (k : Nat) (G : KT1 R) (h : Heap) : Option R := G .ret (.bool true) h
theorem n3_eq {R : Type} (k : Nat) (G : KT1 R) (σ : GS) (h : Heap) : KC k 26 c3 σ h (fun x σ h => G x (σ 4) h) = n3 k G h := by kernel_rfl
noncomputable def c4 : Code := cL c2
noncomputable def c5 : Code := cR c4
noncomputable def c6 : Code := cL c5
noncomputable def c7 : Code := cL c6
noncomputable def c8 : Code := cR c7
noncomputable def c9 : Code := cR c8
@[simp] def n9 {R : Type} (k : Nat) (G : KT4 R) (v0 v1 v4 v5 : GV) (h : Heap) : Option R := (kbin .add v5 (.int .i64 1)).bind fun v16 => G .nrm v0 v1 v4 v16 h
theorem n9_eq {R : Type} (k : Nat) (G : KT4 R) (σ : GS) (h : Heap) : KC k 26 c9 σ h (fun x σ h => G x (σ 0) (σ 1) (σ 4) (σ 5) h) = n9 k G (σ 0) (σ 1) (σ 4) (σ 5) h := by kernel_rfl
noncomputable def c10 : Code := cL c8
noncomputable def c11 : Code := cL c10
@[simp] def n11 {R : Type} (k : Nat) (G : KT4 R) (v0 v1 v4 v5 : GV) (h : Heap) : Option R := (kia 1 v0 v5).bind fun v19 => (kload1 h v19).bind fun v20 => (kia 1 v1 v5).bind fun v23 => (kload1 h v23).bind fun v24 => (kbin .neq v20 v24).bind fun v25 => kcond v25 (G .ret v0 v1 (.bool false) v5 h) (G .nrm v0 v1 v4 v5 h)
theorem n11_eq {R : Type} (k : Nat) (G : KT4 R) (σ : GS) (h : Heap) : KC k 26 c11 σ h (fun x σ h => G x (σ 0) (σ 1) (σ 4) (σ 5) h) = n11 k G (σ 0) (σ 1) (σ 4) (σ 5) h := by kernel_rfl
@[simp] def n10 {R : Type} (k : Nat) (G : KT4 R) (v0 v1 v4 v5 : GV) (h : Heap) : Option R := n11 k (fun x v0 v1 v4 v5 h => kb 1 x fun x => G x v0 v1 v4 v5 h) v0 v1 v4 v5 h
theorem n10_eq {R : Type} (k : Nat) (G : KT4 R) (σ : GS) (h : Heap) : KC k 26 c10 σ h (fun x σ h => G x (σ 0) (σ 1) (σ 4) (σ 5) h) = n10 k G (σ 0) (σ 1) (σ 4) (σ 5) h := (kblock_eq (a := c11) rfl).trans (n11_eq k (fun x v0 v1 v4 v5 h => kb 1 x fun x => G x v0 v1 v4 v5 h) σ h)
@[simp] def n8 {R : Type} (k : Nat) (G : KT4 R) (v0 v1 v4 v5 : GV) (h : Heap) : Option R := n10 k (fun x v0 v1 v4 v5 h => kx x (n9 k G v0 v1 v4 v5 h) (G x v0 v1 v4 v5 h)) v0 v1 v4 v5 h
theorem n8_eq {R : Type} (k : Nat) (G : KT4 R) (σ : GS) (h : Heap) : KC k 26 c8 σ h (fun x σ h => G x (σ 0) (σ 1) (σ 4) (σ 5) h) = n8 k G (σ 0) (σ 1) (σ 4) (σ 5) h := (kseq (b := c9) rfl (fun σ h => n9_eq k G σ h)).trans (n10_eq k (fun x v0 v1 v4 v5 h => kx x (n9 k G v0 v1 v4 v5 h) (G x v0 v1 v4 v5 h)) σ h)
noncomputable def c12 : Code := cL c7
@[simp] def n7 {R : Type} (k : Nat) (G : KT4 R) (v0 v1 v4 v5 : GV) (h : Heap) : Option R := (klen v0).bind fun v13 => (kbin .lss v5 v13).bind fun v14 => kcond v14 (n8 k G v0 v1 v4 v5 h) (G (.ext 0) v0 v1 v4 v5 h)
theorem n7_eq0 {R : Type} (k : Nat) (G : KT4 R) (σ : GS) (h : Heap) : KC k 26 c12 σ h (fun x σ h => kx x (n8 k G (σ 0) (σ 1) (σ 4) (σ 5) h) (G x (σ 0) (σ 1) (σ 4) (σ 5) h)) = n7 k G (σ 0) (σ 1) (σ 4) (σ 5) h := by kernel_rfl
theorem n7_eq {R : Type} (k : Nat) (G : KT4 R) (σ : GS) (h : Heap) : KC k 26 c7 σ h (fun x σ h => G x (σ 0) (σ 1) (σ 4) (σ 5) h) = n7 k G (σ 0) (σ 1) (σ 4) (σ 5) h := (kseq (b := c8) rfl (fun σ h => n8_eq k G σ h)).trans (n7_eq0 k G σ h)
def l6 {R : Type} (k : Nat) (G : KT1 R) : Nat → GV → GV → GV → GV → Heap → Option R
  | 0, _, _, _, _, _ => none
  | r + 1, v0, v1, v4, v5, h => n7 k (fun x v0 v1 v4 v5 h => kx x (l6 k G r v0 v1 v4 v5 h) (G x v4 h)) v0 v1 v4 v5 h
theorem l6_eq {R : Type} (k : Nat) (G : KT1 R) : ∀ (r : Nat) (σ : GS) (h : Heap), kloop (fun σ h K => KC k 26 c7 σ h K) r σ h (fun x σ h => G x (σ 4) h) = l6 k G r (σ 0) (σ 1) (σ 4) (σ 5) h
  | 0, _, _ => rfl
  | r + 1, σ, h => (kloop_eq (fun σ h => l6_eq k G r σ h)).trans (n7_eq k (fun x v0 v1 v4 v5 h => kx x (l6 k G r v0 v1 v4 v5 h) (G x v4 h)) σ h)
@[simp] def n6 {R : Type} (k : Nat) (G : KT1 R) (v0 v1 v4 v5 : GV) (h : Heap) : Option R := l6 k G k v0 v1 v4 v5 h
theorem n6_eq {R : Type} (k : Nat) (G : KT1 R) (σ : GS) (h : Heap) : KC k 26 c6 σ h (fun x σ h => G x (σ 4) h) = n6 k G (σ 0) (σ 1) (σ 4) (σ 5) h := (kloopc_eq (a := c7) rfl).trans (l6_eq k G k σ h)
@[simp] def n5 {R : Type} (k : Nat) (G : KT1 R) (v0 v1 v4 v5 : GV) (h : Heap) : Option R := n6 k (fun x v4 h => kb 0 x fun x => G x v4 h) v0 v1 v4 v5 h
theorem n5_eq {R : Type} (k : Nat) (G : KT1 R) (σ : GS) (h : Heap) : KC k 26 c5 σ h (fun x σ h => G x (σ 4) h) = n5 k G (σ 0) (σ 1) (σ 4) (σ 5) h := (kblock_eq (a := c6) rfl).trans (n6_eq k (fun x v4 h => kb 0 x fun x => G x v4 h) σ h)
noncomputable def c13 : Code := cL c4
@[simp] def n4 {R : Type} (k : Nat) (G : KT1 R) (v0 v1 v4 : GV) (h : Heap) : Option R := n5 k G v0 v1 v4 (.int .i64 0) h
theorem n4_eq0 {R : Type} (k : Nat) (G : KT1 R) (σ : GS) (h : Heap) : KC k 26 c13 σ h (fun x σ h => kx x (n5 k G (σ 0) (σ 1) (σ 4) (σ 5) h) (G x (σ 4) h)) = n4 k G (σ 0) (σ 1) (σ 4) h := by kernel_rfl
theorem n4_eq {R : Type} (k : Nat) (G : KT1 R) (σ : GS) (h : Heap) : KC k 26 c4 σ h (fun x σ h => G x (σ 4) h) = n4 k G (σ 0) (σ 1) (σ 4) h := (kseq (b := c5) rfl (fun σ h => n5_eq k G σ h)).trans (n4_eq0 k G σ h)
@[simp] def n2 {R : Type} (k : Nat) (G : KT1 R) (v0 v1 v4 : GV) (h : Heap) : Option R := n4 k (fun x v4 h => kx x (n3 k G h) (G x v4 h)) v0 v1 v4 h
theorem n2_eq {R : Type} (k : Nat) (G : KT1 R) (σ : GS) (h : Heap) : KC k 26 c2 σ h (fun x σ h => G x (σ 4) h) = n2 k G (σ 0) (σ 1) (σ 4) h := (kseq (b := c3) rfl (fun σ h => n3_eq k G σ h)).trans (n4_eq k (fun x v4 h => kx x (n3 k G h) (G x v4 h)) σ h)
noncomputable def c14 : Code := cL c1
@[simp] def n1 {R : Type} (k : Nat) (G : KT1 R) (v0 v1 v4 : GV) (h : Heap) : Option R := (klen v0).bind fun v7 => (klen v1).bind fun v9 => (kbin .neq v7 v9).bind fun v10 => kcond v10 (G .ret (.bool false) h) (n2 k G v0 v1 v4 h)
theorem n1_eq0 {R : Type} (k : Nat) (G : KT1 R) (σ : GS) (h : Heap) : KC k 26 c14 σ h (fun x σ h => kx x (n2 k G (σ 0) (σ 1) (σ 4) h) (G x (σ 4) h)) = n1 k G (σ 0) (σ 1) (σ 4) h := by kernel_rfl
theorem n1_eq {R : Type} (k : Nat) (G : KT1 R) (σ : GS) (h : Heap) : KC k 26 c1 σ h (fun x σ h => G x (σ 4) h) = n1 k G (σ 0) (σ 1) (σ 4) h := (kseq (b := c2) rfl (fun σ h => n2_eq k G σ h)).trans (n1_eq0 k G σ h)
noncomputable def c15 : Code := cL c0
@[simp] def n0 {R : Type} (k : Nat) (G : KT1 R) (v0 v1 : GV) (h : Heap) : Option R := n1 k G v0 v1 (.bool false) h
theorem n0_eq0 {R : Type} (k : Nat) (G : KT1 R) (σ : GS) (h : Heap) : KC k 26 c15 σ h (fun x σ h => kx x (n1 k G (σ 0) (σ 1) (σ 4) h) (G x (σ 4) h)) = n0 k G (σ 0) (σ 1) h := by kernel_rfl
theorem n0_eq {R : Type} (k : Nat) (G : KT1 R) (σ : GS) (h : Heap) : KC k 26 c0 σ h (fun x σ h => G x (σ 4) h) = n0 k G (σ 0) (σ 1) h := (kseq (b := c1) rfl (fun σ h => n1_eq k G σ h)).trans (n0_eq0 k G σ h)
def run {R : Type} (k : Nat) (a0 : GV) (a1 : GV) (h : Heap) (fin : GV → Heap → Option R) : Option R := n0 k (fun x v4 h => kend x (fin v4 h)) a0 a1 h
theorem run_eq {R : Type} (k : Nat) (a0 : GV) (a1 : GV) (h : Heap) (fin : GV → Heap → Option R) : kfun PP cfg NN HH k fn.spec_l17Same [a0, a1] h fin = run k a0 a1 h fin := (kfun_eq (nt := 26) (c := c0) (show PP.funcs[fn.spec_l17Same]? = some Try.f89 by kernel_rfl) (by kernel_rfl) (by kernel_rfl) (fun x σ h => by cases x <;> kernel_rfl)).trans (n0_eq k (fun x v4 h => kend x (fin v4 h)) _ h)
theorem gives {k : Nat} {a0 : GV} {a1 : GV} {v : GV} (e : run k a0 a1 [] finN = some v) : NN fn.spec_l17Same [a0, a1] = some v := nω_of (by kernel_rfl) ((run_eq k a0 a1 [] finN).trans e)
end S.spec_l17Same
/-! spec_l17Texts -/
namespace S.spec_l17Texts
noncomputable def c0 : Code := bodyOf Try.f90
@[simp] def n0 {R : Type} (k : Nat) (G : KT1 R) (v0 : GV) (h : Heap) : Option R := (kapp [(.str { data := #[] })] 1 16 .emp v0 h).bind fun r => kr r fun v5 h => G .ret v5 h
theorem n0_eq {R : Type} (k : Nat) (G : KT1 R) (σ : GS) (h : Heap) : KC k 6 c0 σ h (fun x σ h => G x (σ 2) h) = n0 k G (σ 0) h := by kernel_rfl
def run {R : Type} (k : Nat) (a0 : GV) (h : Heap) (fin : GV → Heap → Option R) : Option R := n0 k (fun x v2 h => kend x (fin v2 h)) a0 h
theorem run_eq {R : Type} (k : Nat) (a0 : GV) (h : Heap) (fin : GV → Heap → Option R) : kfun PP cfg NN HH k fn.spec_l17Texts [a0] h fin = run k a0 h fin := (kfun_eq (nt := 6) (c := c0) (show PP.funcs[fn.spec_l17Texts]? = some Try.f90 by kernel_rfl) (by kernel_rfl) (by kernel_rfl) (fun x σ h => by cases x <;> kernel_rfl)).trans (n0_eq k (fun x v2 h => kend x (fin v2 h)) _ h)
theorem gives {k : Nat} {a0 : GV} {b : Nat} {q : GV × List (List GV)} (e : run k a0 [] (finO b) = some q) : OO fn.spec_l17Texts [a0] b = some q := oω_of ((run_eq k a0 [] (finO b)).trans e)
end S.spec_l17Texts
/-! slices_ContainsFunc_impl_Server -/
namespace S.slices_ContainsFunc_impl_Server
noncomputable def c0 : Code := bodyOf Try.f98
@[simp] def n0 {R : Type} (k : Nat) (G : KT1 R) (v0 v1 : GV) (h : Heap) : Option R := (kN NN fn.slices_IndexFunc_impl_Server [v0, v1] h).bind fun v7 => (kbin .geq v7 (.int .i64 0)).bind fun v8 => G .ret v8 h
theorem n0_eq {R : Type} (k : Nat) (G : KT1 R) (σ : GS) (h : Heap) : KC k 9 c0 σ h (fun x σ h => G x (σ 4) h) = n0 k G (σ 0) (σ 1) h := by kernel_rfl
def run {R : Type} (k : Nat) (a0 : GV) (a1 : GV) (h : Heap) (fin : GV → Heap → Option R) : Option R := n0 k (fun x v4 h => kend x (fin v4 h)) a0 a1 h
theorem run_eq {R : Type} (k : Nat) (a0 : GV) (a1 : GV) (h : Heap) (fin : GV → Heap → Option R) : kfun PP cfg NN HH k fn.slices_ContainsFunc_impl_Server [a0, a1] h fin = run k a0 a1 h fin := (kfun_eq (nt := 9) (c := c0) (show PP.funcs[fn.slices_ContainsFunc_impl_Server]? = some Try.f98 by kernel_rfl) (by kernel_rfl) (by kernel_rfl) (fun x σ h => by cases x <;> kernel_rfl)).trans (n0_eq k (fun x v4 h => kend x (fin v4 h)) _ h)
theorem gives {k : Nat} {a0 : GV} {a1 : GV} {v : GV} (e : run k a0 a1 [] finN = some v) : NN fn.slices_ContainsFunc_impl_Server [a0, a1] = some v := nω_of (by kernel_rfl) ((run_eq k a0 a1 [] finN).trans e)
end S.slices_ContainsFunc_impl_Server
/-! impl_ChainOk_1 -/
namespace S.impl_ChainOk_1
noncomputable def c0 : Code := bodyOf Try.f99
@[simp] def n0 {R : Type} (k : Nat) (G : KT1 R) (v0 : GV) (h : Heap) : Option R := kbox v0 h fun v1 h => (kloadA 2 h v1).bind fun v3 => (kN NN fn.impl_isServer [v3] h).bind fun v4 => (kun .not v4).bind fun v5 => G .ret v5 h
theorem n0_eq {R : Type} (k : Nat) (G : KT1 R) (σ : GS) (h : Heap) : KC k 6 c0 σ h (fun x σ h => G x (σ 2) h) = n0 k G (σ 0) h := by kernel_rfl
def run {R : Type} (k : Nat) (a0 : GV) (h : Heap) (fin : GV → Heap → Option R) : Option R := n0 k (fun x v2 h => kend x (fin v2 h)) a0 h
theorem run_eq {R : Type} (k : Nat) (a0 : GV) (h : Heap) (fin : GV → Heap → Option R) : kfun PP cfg NN HH k fn.impl_ChainOk_1 [a0] h fin = run k a0 h fin := (kfun_eq (nt := 6) (c := c0) (show PP.funcs[fn.impl_ChainOk_1]? = some Try.f99 by kernel_rfl) (by kernel_rfl) (by kernel_rfl) (fun x σ h => by cases x <;> kernel_rfl)).trans (n0_eq k (fun x v2 h => kend x (fin v2 h)) _ h)
theorem gives {k : Nat} {a0 : GV} {v : GV} (e : run k a0 [] finN = some v) : NN fn.impl_ChainOk_1 [a0] = some v := nω_of (by kernel_rfl) ((run_eq k a0 [] finN).trans e)
end S.impl_ChainOk_1
/-! impl_isServer -/
namespace S.impl_isServer
noncomputable def c0 : Code := bodyOf Try.f100
noncomputable def c1 : Code := cR c0
noncomputable def c2 : Code := cR c1
@[simp] def n2 {R : Type} (k : Nat) (G : KT1 R) (v2 : GV) (h : Heap) : Option R := G .ret v2 h
theorem n2_eq {R : Type} (k : Nat) (G : KT1 R) (σ : GS) (h : Heap) : KC k 21 c2 σ h (fun x σ h => G x (σ 2) h) = n2 k G (σ 2) h := by kernel_rfl
noncomputable def c3 : Code := cL c1
noncomputable def o3 : Array Oper := cO c3
@[simp] def g3_4 {R : Type} (k : Nat) (G : KT1 R) (v15 v19 : GV) (h : Heap) : Option R := (kpick v15 v19 (.bool false)).bind fun v20 => G .nrm v20 h
theorem g3_4_eq {R : Type} (k : Nat) (G : KT1 R) (σ : GS) (h : Heap) : kgroups PP cfg NN HH 21 o3 [(none, [17, 18])] σ h (fun σ h => G .nrm (σ 2) h) = g3_4 k G (σ 15) (σ 19) h := by kernel_rfl
@[simp] def g3_3 {R : Type} (k : Nat) (G : KT1 R) (v1 v15 : GV) (h : Heap) : Option R := bif tr true v15 then (kfa 0 v1).bind fun v16 => (kload1 h v16).bind fun v17 => (kN NN fn.slices_ContainsFunc_string [v17, (.fn fn.impl_isServer_1 [])] h).bind fun v18 => (kun .not v18).bind fun v19 => g3_4 k G v15 v19 h else g3_4 k G v15 .un h
theorem g3_3_eq0 {R : Type} (k : Nat) (G : KT1 R) (σ : GS) (h : Heap) : kgroup1 PP cfg NN HH 21 o3 (some (12, true), [13, 14, 15, 16]) σ h (fun σ h => g3_4 k G (σ 15) (σ 19) h) = g3_3 k G (σ 1) (σ 15) h := by kernel_rfl
theorem g3_3_eq {R : Type} (k : Nat) (G : KT1 R) (σ : GS) (h : Heap) : kgroups PP cfg NN HH 21 o3 [(some (12, true), [13, 14, 15, 16]), (none, [17, 18])] σ h (fun σ h => G .nrm (σ 2) h) = g3_3 k G (σ 1) (σ 15) h := (kgroups_cons (fun σ h => g3_4_eq k G σ h)).trans (g3_3_eq0 k G σ h)
@[simp] def g3_2 {R : Type} (k : Nat) (G : KT1 R) (v1 v7 v13 : GV) (h : Heap) : Option R := (kpick v7 v13 (.bool false)).bind fun v14 => g3_3 k G v1 v14 h
theorem g3_2_eq0 {R : Type} (k : Nat) (G : KT1 R) (σ : GS) (h : Heap) : kgroup1 PP cfg NN HH 21 o3 (none, [11, 12]) σ h (fun σ h => g3_3 k G (σ 1) (σ 15) h) = g3_2 k G (σ 1) (σ 7) (σ 13) h := by kernel_rfl
theorem g3_2_eq {R : Type} (k : Nat) (G : KT1 R) (σ : GS) (h : Heap) : kgroups PP cfg NN HH 21 o3 [(none, [11, 12]), (some (12, true), [13, 14, 15, 16]), (none, [17, 18])] σ h (fun σ h => G .nrm (σ 2) h) = g3_2 k G (σ 1) (σ 7) (σ 13) h := (kgroups_cons (fun σ h => g3_3_eq k G σ h)).trans (g3_2_eq0 k G σ h)
@[simp] def g3_1 {R : Type} (k : Nat) (G : KT1 R) (v1 v7 : GV) (h : Heap) : Option R := bif tr true v7 then (kfa 1 v1).bind fun v8 => (kload1 h v8).bind fun v9 => (kfa 0 v1).bind fun v10 => (kload1 h v10).bind fun v11 => (klen v11).bind fun v12 => (kN NN fn.impl_in [v9, (.int .i64 0), v12] h).bind fun v13 => g3_2 k G v1 v7 v13 h else g3_2 k G v1 v7 .un h
theorem g3_1_eq0 {R : Type} (k : Nat) (G : KT1 R) (σ : GS) (h : Heap) : kgroup1 PP cfg NN HH 21 o3 (some (4, true), [5, 6, 7, 8, 9, 10]) σ h (fun σ h => g3_2 k G (σ 1) (σ 7) (σ 13) h) = g3_1 k G (σ 1) (σ 7) h := by kernel_rfl
theorem g3_1_eq {R : Type} (k : Nat) (G : KT1 R) (σ : GS) (h : Heap) : kgroups PP cfg NN HH 21 o3 [(some (4, true), [5, 6, 7, 8, 9, 10]), (none, [11, 12]), (some (12, true), [13, 14, 15, 16]), (none, [17, 18])] σ h (fun σ h => G .nrm (σ 2) h) = g3_1 k G (σ 1) (σ 7) h := (kgroups_cons (fun σ h => g3_2_eq k G σ h)).trans (g3_1_eq0 k G σ h)
@[simp] def g3_0 {R : Type} (k : Nat) (G : KT1 R) (v1 : GV) (h : Heap) : Option R := (kfa 0 v1).bind fun v3 => (kload1 h v3).bind fun v4 => (klen v4).bind fun v5 => (kbin .leq v5 (.int .i64 60)).bind fun v6 => g3_1 k G v1 v6 h
theorem g3_0_eq0 {R : Type} (k : Nat) (G : KT1 R) (σ : GS) (h : Heap) : kgroup1 PP cfg NN HH 21 o3 (none, [0, 1, 2, 3, 4]) σ h (fun σ h => g3_1 k G (σ 1) (σ 7) h) = g3_0 k G (σ 1) h := by kernel_rfl
theorem g3_0_eq {R : Type} (k : Nat) (G : KT1 R) (σ : GS) (h : Heap) : kgroups PP cfg NN HH 21 o3 [(none, [0, 1, 2, 3, 4]), (some (4, true), [5, 6, 7, 8, 9, 10]), (none, [11, 12]), (some (12, true), [13, 14, 15, 16]), (none, [17, 18])] σ h (fun σ h => G .nrm (σ 2) h) = g3_0 k G (σ 1) h := (kgroups_cons (fun σ h => g3_1_eq k G σ h)).trans (g3_0_eq0 k G σ h)
@[simp] def n3 {R : Type} (k : Nat) (G : KT1 R) (v1 : GV) (h : Heap) : Option R := g3_0 k G v1 h
theorem n3_eq {R : Type} (k : Nat) (G : KT1 R) (σ : GS) (h : Heap) : KC k 21 c3 σ h (fun x σ h => G x (σ 2) h) = n3 k G (σ 1) h := (kregion_eq (id := 1) (draw := false) (ops := o3) (gs := [(none, [0, 1, 2, 3, 4]), (some (4, true), [5, 6, 7, 8, 9, 10]), (none, [11, 12]), (some (12, true), [13, 14, 15, 16]), (none, [17, 18])]) (by kernel_rfl) (by kernel_rfl) (by kernel_rfl)).trans (g3_0_eq k G σ h)
@[simp] def n1 {R : Type} (k : Nat) (G : KT1 R) (v1 : GV) (h : Heap) : Option R := n3 k (fun x v2 h => kx x (n2 k G v2 h) (G x v2 h)) v1 h
theorem n1_eq {R : Type} (k : Nat) (G : KT1 R) (σ : GS) (h : Heap) : KC k 21 c1 σ h (fun x σ h => G x (σ 2) h) = n1 k G (σ 1) h := (kseq (b := c2) rfl (fun σ h => n2_eq k G σ h)).trans (n3_eq k (fun x v2 h => kx x (n2 k G v2 h) (G x v2 h)) σ h)
noncomputable def c4 : Code := cL c0
@[simp] def n0 {R : Type} (k : Nat) (G : KT1 R) (v0 : GV) (h : Heap) : Option R := kbox v0 h fun v1 h => n1 k G v1 h
theorem n0_eq0 {R : Type} (k : Nat) (G : KT1 R) (σ : GS) (h : Heap) : KC k 21 c4 σ h (fun x σ h => kx x (n1 k G (σ 1) h) (G x (σ 2) h)) = n0 k G (σ 0) h := by kernel_rfl
theorem n0_eq {R : Type} (k : Nat) (G : KT1 R) (σ : GS) (h : Heap) : KC k 21 c0 σ h (fun x σ h => G x (σ 2) h) = n0 k G (σ 0) h := (kseq (b := c1) rfl (fun σ h => n1_eq k G σ h)).trans (n0_eq0 k G σ h)
def run {R : Type} (k : Nat) (a0 : GV) (h : Heap) (fin : GV → Heap → Option R) : Option R := n0 k (fun x v2 h => kend x (fin v2 h)) a0 h
theorem run_eq {R : Type} (k : Nat) (a0 : GV) (h : Heap) (fin : GV → Heap → Option R) : kfun PP cfg NN HH k fn.impl_isServer [a0] h fin = run k a0 h fin := (kfun_eq (nt := 21) (c := c0) (show PP.funcs[fn.impl_isServer]? = some Try.f100 by kernel_rfl) (by kernel_rfl) (by kernel_rfl) (fun x σ h => by cases x <;> kernel_rfl)).trans (n0_eq k (fun x v2 h => kend x (fin v2 h)) _ h)
theorem gives {k : Nat} {a0 : GV} {v : GV} (e : run k a0 [] finN = some v) : NN fn.impl_isServer [a0] = some v := nω_of (by kernel_rfl) ((run_eq k a0 [] finN).trans e)
end S.impl_isServer
/-! slices_Equal_string -/
namespace S.slices_Equal_string
noncomputable def c0 : Code := bodyOf Try.f101
noncomputable def c1 : Code := cR c0
noncomputable def c2 : Code := cR c1
noncomputable def c3 : Code := cR c2
@[simp] def n3 {R : Type} (k : Nat) (G : KT1 R) (h : Heap) : Option R := G .ret (.bool true) h
theorem n3_eq {R : Type} (k : Nat) (G : KT1 R) (σ : GS) (h : Heap) : KC k 26 c3 σ h (fun x σ h => G x (σ 4) h) = n3 k G h := by kernel_rfl
noncomputable def c4 : Code := cL c2
noncomputable def c5 : Code := cR c4
noncomputable def c6 : Code := cL c5
noncomputable def c7 : Code := cL c6
noncomputable def c8 : Code := cR c7
noncomputable def c9 : Code := cR c8
noncomputable def c10 : Code := cR c9
@[simp] def n10 {R : Type} (k : Nat) (G : KT5 R) (v0 v1 v4 v12 v13 : GV) (h : Heap) : Option R := (kbin .add v13 (.int .i64 1)).bind fun v25 => G .nrm v0 v1 v4 v12 v25 h
theorem n10_eq {R : Type} (k : Nat) (G : KT5 R) (σ : GS) (h : Heap) : KC k 26 c10 σ h (fun x σ h => G x (σ 0) (σ 1) (σ 4) (σ 12) (σ 13) h) = n10 k G (σ 0) (σ 1) (σ 4) (σ 12) (σ 13) h := by kernel_rfl
noncomputable def c11 : Code := cL c9
noncomputable def c12 : Code := cL c11
@[simp] def n12 {R : Type} (k : Nat) (G : KT5 R) (v0 v1 v4 v12 v13 : GV) (h : Heap) : Option R := (kia 1 v0 v13).bind fun v18 => (kload1 h v18).bind fun v19 => (kia 1 v1 v13).bind fun v22 => (kload1 h v22).bind fun v23 => (kbin .neq v19 v23).bind fun v24 => kcond v24 (G .ret v0 v1 (.bool false) v12 v13 h) (G .nrm v0 v1 v4 v12 v13 h)
theorem n12_eq {R : Type} (k : Nat) (G : KT5 R) (σ : GS) (h : Heap) : KC k 26 c12 σ h (fun x σ h => G x (σ 0) (σ 1) (σ 4) (σ 12) (σ 13) h) = n12 k G (σ 0) (σ 1) (σ 4) (σ 12) (σ 13) h := by kernel_rfl
@[simp] def n11 {R : Type} (k : Nat) (G : KT5 R) (v0 v1 v4 v12 v13 : GV) (h : Heap) : Option R := n12 k (fun x v0 v1 v4 v12 v13 h => kb 1 x fun x => G x v0 v1 v4 v12 v13 h) v0 v1 v4 v12 v13 h
theorem n11_eq {R : Type} (k : Nat) (G : KT5 R) (σ : GS) (h : Heap) : KC k 26 c11 σ h (fun x σ h => G x (σ 0) (σ 1) (σ 4) (σ 12) (σ 13) h) = n11 k G (σ 0) (σ 1) (σ 4) (σ 12) (σ 13) h := (kblock_eq (a := c12) rfl).trans (n12_eq k (fun x v0 v1 v4 v12 v13 h => kb 1 x fun x => G x v0 v1 v4 v12 v13 h) σ h)
@[simp] def n9 {R : Type} (k : Nat) (G : KT5 R) (v0 v1 v4 v12 v13 : GV) (h : Heap) : Option R := n11 k (fun x v0 v1 v4 v12 v13 h => kx x (n10 k G v0 v1 v4 v12 v13 h) (G x v0 v1 v4 v12 v13 h)) v0 v1 v4 v12 v13 h
theorem n9_eq {R : Type} (k : Nat) (G : KT5 R) (σ : GS) (h : Heap) : KC k 26 c9 σ h (fun x σ h => G x (σ 0) (σ 1) (σ 4) (σ 12) (σ 13) h) = n9 k G (σ 0) (σ 1) (σ 4) (σ 12) (σ 13) h := (kseq (b := c10) rfl (fun σ h => n10_eq k G σ h)).trans (n11_eq k (fun x v0 v1 v4 v12 v13 h => kx x (n10 k G v0 v1 v4 v12 v13 h) (G x v0 v1 v4 v12 v13 h)) σ h)
noncomputable def c13 : Code := cL c8
@[simp] def n8 {R : Type} (k : Nat) (G : KT5 R) (v0 v1 v4 v12 v13 v14 : GV) (h : Heap) : Option R := kcond v14 (n9 k G v0 v1 v4 v12 v13 h) (G (.ext 0) v0 v1 v4 v12 v13 h)
theorem n8_eq0 {R : Type} (k : Nat) (G : KT5 R) (σ : GS) (h : Heap) : KC k 26 c13 σ h (fun x σ h => kx x (n9 k G (σ 0) (σ 1) (σ 4) (σ 12) (σ 13) h) (G x (σ 0) (σ 1) (σ 4) (σ 12) (σ 13) h)) = n8 k G (σ 0) (σ 1) (σ 4) (σ 12) (σ 13) (σ 14) h := by kernel_rfl
theorem n8_eq {R : Type} (k : Nat) (G : KT5 R) (σ : GS) (h : Heap) : KC k 26 c8 σ h (fun x σ h => G x (σ 0) (σ 1) (σ 4) (σ 12) (σ 13) h) = n8 k G (σ 0) (σ 1) (σ 4) (σ 12) (σ 13) (σ 14) h := (kseq (b := c9) rfl (fun σ h => n9_eq k G σ h)).trans (n8_eq0 k G σ h)
noncomputable def c14 : Code := cL c7
@[simp] def n7 {R : Type} (k : Nat) (G : KT5 R) (v0 v1 v4 v12 v13 : GV) (h : Heap) : Option R := (kbin .lss v13 v12).bind fun v14 => n8 k G v0 v1 v4 v12 v13 v14 h
theorem n7_eq0 {R : Type} (k : Nat) (G : KT5 R) (σ : GS) (h : Heap) : KC k 26 c14 σ h (fun x σ h => kx x (n8 k G (σ 0) (σ 1) (σ 4) (σ 12) (σ 13) (σ 14) h) (G x (σ 0) (σ 1) (σ 4) (σ 12) (σ 13) h)) = n7 k G (σ 0) (σ 1) (σ 4) (σ 12) (σ 13) h := by kernel_rfl
theorem n7_eq {R : Type} (k : Nat) (G : KT5 R) (σ : GS) (h : Heap) : KC k 26 c7 σ h (fun x σ h => G x (σ 0) (σ 1) (σ 4) (σ 12) (σ 13) h) = n7 k G (σ 0) (σ 1) (σ 4) (σ 12) (σ 13) h := (kseq (b := c8) rfl (fun σ h => n8_eq k G σ h)).trans (n7_eq0 k G σ h)
def l6 {R : Type} (k : Nat) (G : KT1 R) : Nat → GV → GV → GV → GV → GV → Heap → Option R
  | 0, _, _, _, _, _, _ => none
  | r + 1, v0, v1, v4, v12, v13, h => n7 k (fun x v0 v1 v4 v12 v13 h => kx x (l6 k G r v0 v1 v4 v12 v13 h) (G x v4 h)) v0 v1 v4 v12 v13 h
theorem l6_eq {R : Type} (k : Nat) (G : KT1 R) : ∀ (r : Nat) (σ : GS) (h : Heap), kloop (fun σ h K => KC k 26 c7 σ h K) r σ h (fun x σ h => G x (σ 4) h) = l6 k G r (σ 0) (σ 1) (σ 4) (σ 12) (σ 13) h
  | 0, _, _ => rfl
  | r + 1, σ, h => (kloop_eq (fun σ h => l6_eq k G r σ h)).trans (n7_eq k (fun x v0 v1 v4 v12 v13 h => kx x (l6 k G r v0 v1 v4 v12 v13 h) (G x v4 h)) σ h)
@[simp] def n6 {R : Type} (k : Nat) (G : KT1 R) (v0 v1 v4 v12 v13 : GV) (h : Heap) : Option R := l6 k G k v0 v1 v4 v12 v13 h
theorem n6_eq {R : Type} (k : Nat) (G : KT1 R) (σ : GS) (h : Heap) : KC k 26 c6 σ h (fun x σ h => G x (σ 4) h) = n6 k G (σ 0) (σ 1) (σ 4) (σ 12) (σ 13) h := (kloopc_eq (a := c7) rfl).trans (l6_eq k G k σ h)
@[simp] def n5 {R : Type} (k : Nat) (G : KT1 R) (v0 v1 v4 v12 v13 : GV) (h : Heap) : Option R := n6 k (fun x v4 h => kb 0 x fun x => G x v4 h) v0 v1 v4 v12 v13 h
theorem n5_eq {R : Type} (k : Nat) (G : KT1 R) (σ : GS) (h : Heap) : KC k 26 c5 σ h (fun x σ h => G x (σ 4) h) = n5 k G (σ 0) (σ 1) (σ 4) (σ 12) (σ 13) h := (kblock_eq (a := c6) rfl).trans (n6_eq k (fun x v4 h => kb 0 x fun x => G x v4 h) σ h)
noncomputable def c15 : Code := cL c4
@[simp] def n4 {R : Type} (k : Nat) (G : KT1 R) (v0 v1 v4 : GV) (h : Heap) : Option R := (klen v0).bind fun v12 => n5 k G v0 v1 v4 v12 (.int .i64 0) h
theorem n4_eq0 {R : Type} (k : Nat) (G : KT1 R) (σ : GS) (h : Heap) : KC k 26 c15 σ h (fun x σ h => kx x (n5 k G (σ 0) (σ 1) (σ 4) (σ 12) (σ 13) h) (G x (σ 4) h)) = n4 k G (σ 0) (σ 1) (σ 4) h := by kernel_rfl
theorem n4_eq {R : Type} (k : Nat) (G : KT1 R) (σ : GS) (h : Heap) : KC k 26 c4 σ h (fun x σ h => G x (σ 4) h) = n4 k G (σ 0) (σ 1) (σ 4) h := (kseq (b := c5) rfl (fun σ h => n5_eq k G σ h)).trans (n4_eq0 k G σ h)
@[simp] def n2 {R : Type} (k : Nat) (G : KT1 R) (v0 v1 v4 : GV) (h : Heap) : Option R := n4 k (fun x v4 h => kx x (n3 k G h) (G x v4 h)) v0 v1 v4 h
theorem n2_eq {R : Type} (k : Nat) (G : KT1 R) (σ : GS) (h : Heap) : KC k 26 c2 σ h (fun x σ h => G x (σ 4) h) = n2 k G (σ 0) (σ 1) (σ 4) h := (kseq (b := c3) rfl (fun σ h => n3_eq k G σ h)).trans (n4_eq k (fun x v4 h => kx x (n3 k G h) (G x v4 h)) σ h)
noncomputable def c16 : Code := cL c1
@[simp] def n1 {R : Type} (k : Nat) (G : KT1 R) (v0 v1 v4 : GV) (h : Heap) : Option R := (klen v0).bind fun v7 => (klen v1).bind fun v9 => (kbin .neq v7 v9).bind fun v10 => kcond v10 (G .ret (.bool false) h) (n2 k G v0 v1 v4 h)
theorem n1_eq0 {R : Type} (k : Nat) (G : KT1 R) (σ : GS) (h : Heap) : KC k 26 c16 σ h (fun x σ h => kx x (n2 k G (σ 0) (σ 1) (σ 4) h) (G x (σ 4) h)) = n1 k G (σ 0) (σ 1) (σ 4) h := by kernel_rfl
theorem n1_eq {R : Type} (k : Nat) (G : KT1 R) (σ : GS) (h : Heap) : KC k 26 c1 σ h (fun x σ h => G x (σ 4) h) = n1 k G (σ 0) (σ 1) (σ 4) h := (kseq (b := c2) rfl (fun σ h => n2_eq k G σ h)).trans (n1_eq0 k G σ h)
noncomputable def c17 : Code := cL c0
@[simp] def n0 {R : Type} (k : Nat) (G : KT1 R) (v0 v1 : GV) (h : Heap) : Option R := n1 k G v0 v1 (.bool false) h
theorem n0_eq0 {R : Type} (k : Nat) (G : KT1 R) (σ : GS) (h : Heap) : KC k 26 c17 σ h (fun x σ h => kx x (n1 k G (σ 0) (σ 1) (σ 4) h) (G x (σ 4) h)) = n0 k G (σ 0) (σ 1) h := by kernel_rfl
theorem n0_eq {R : Type} (k : Nat) (G : KT1 R) (σ : GS) (h : Heap) : KC k 26 c0 σ h (fun x σ h => G x (σ 4) h) = n0 k G (σ 0) (σ 1) h := (kseq (b := c1) rfl (fun σ h => n1_eq k G σ h)).trans (n0_eq0 k G σ h)
def run {R : Type} (k : Nat) (a0 : GV) (a1 : GV) (h : Heap) (fin : GV → Heap → Option R) : Option R := n0 k (fun x v4 h => kend x (fin v4 h)) a0 a1 h
theorem run_eq {R : Type} (k : Nat) (a0 : GV) (a1 : GV) (h : Heap) (fin : GV → Heap → Option R) : kfun PP cfg NN HH k fn.slices_Equal_string [a0, a1] h fin = run k a0 a1 h fin := (kfun_eq (nt := 26) (c := c0) (show PP.funcs[fn.slices_Equal_string]? = some Try.f101 by kernel_rfl) (by kernel_rfl) (by kernel_rfl) (fun x σ h => by cases x <;> kernel_rfl)).trans (n0_eq k (fun x v4 h => kend x (fin v4 h)) _ h)
theorem gives {k : Nat} {a0 : GV} {a1 : GV} {v : GV} (e : run k a0 a1 [] finN = some v) : NN fn.slices_Equal_string [a0, a1] = some v := nω_of (by kernel_rfl) ((run_eq k a0 a1 [] finN).trans e)
end S.slices_Equal_string
end
end Go.Proofs.Ytopmnigfklgnkaa.G
