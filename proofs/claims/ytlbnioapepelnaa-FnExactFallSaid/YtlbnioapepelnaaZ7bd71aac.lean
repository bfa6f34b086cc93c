/- What these functions do, told for open values, out of the machine with continuations. Printed by a program of this session. One element is taken out o -/
import Derived.Test.YtlbnioapepelnaaZd32dcad8
import Derived.KernelRfl
import Derived.Test.YtlbnioapepelnaaZa600df3a
import Derived.Test.YtlbnioapepelnaaZ39430fd3
set_option linter.unusedSimpArgs false
set_option linter.unusedVariables false
set_option maxRecDepth 100000
namespace Go.Proofs.Ytlbnioapepelnaa.G
open Go.RowKit
noncomputable section
variable {R : Type} (k : Nat) (σ : GS) (h : Heap)
namespace S.spec_Fall
noncomputable def c0 := bodyOf Try.f15
@[simp] def n0 {R : Type} (k : Nat) (G : KT2 R) (v0 v1 : GV) (h : Heap) := kbox v0 h fun v2 h => kalloc [.nils, .nils, .nils] h fun v4 h => (kloadA 3 h v2).bind fun v8 => (kN NN fn.spec_ChainOk [v8] h).bind fun v9 => (kun .not v9).bind fun v10 => kcond v10 ((gfill (fun i => [(0, 1), (1, 1), (2, 1)][i]?) [.nils, .nils, .nils] []).bind fun c => kagg c h fun v11 h => (kstore 3 h v4 v11).bind fun h => G .ret v4 (.bool false) h) ((kloadA 3 h v2).bind fun v12 => (kF false HH fn.spec_l17Copy [v12] h).bind fun r => kr r fun v13 h => kalloc [.nils, .nils, .nils] h fun v6 h => (kstore 3 h v6 v13).bind fun h => (HH fn.spec_l17Fall [v6, v1] h).bind fun r => kr r fun v15 h => (kloadA 3 h v6).bind fun v16 => (kstore 3 h v4 v16).bind fun h => G .ret v4 v15 h)
theorem n0_eq (G : KT2 R) : KC k 18 c0 σ h (Q2 G 4 5) = W2 (n0 k G) 0 1 σ h := by kernel_rfl
def run {R : Type} (k : Nat) (a0 a1 : GV) (h : Heap) (fin : GV → Heap → Option R) : Option R := n0 k (fun x v4 v5 h => kend x ((kloadA 3 h v4).bind fun w4 => fin (.tup [w4, v5]) h)) a0 a1 h
theorem gives {k : Nat} {a0 a1 : GV} {v : GV} (e : run k a0 a1 [] finN = some v) : NN fn.spec_Fall [a0, a1] = some v := nω_of (by kernel_rfl) (((kfun_eq (nt := 18) (c := c0) (show PP.funcs[fn.spec_Fall]? = some Try.f15 by kernel_rfl) (by kernel_rfl) (by kernel_rfl) (fun x σ h => by cases x <;> kernel_rfl)).trans (n0_eq k _ [] _)).trans e)
end S.spec_Fall
namespace S.impl_Fall
noncomputable def c0 := bodyOf Try.f17
@[simp] def n0 {R : Type} (k : Nat) (G : KT2 R) (v0 v1 : GV) (h : Heap) := kbox v0 h fun v2 h => kbox v1 h fun v3 h => kalloc [.nils, .nils, .nils] h fun v4 h => (kloadA 3 h v2).bind fun v6 => (kF false HH fn.impl_changed [v6, (.fn fn.impl_Fall_1 [v3])] h).bind fun r => kr r fun v8 h => (kxt 0 v8).bind fun v9 => (kxt 1 v8).bind fun v10 => (kstore 3 h v4 v9).bind fun h => G .ret v4 v10 h
theorem n0_eq (G : KT2 R) : KC k 11 c0 σ h (Q2 G 4 5) = W2 (n0 k G) 0 1 σ h := by kernel_rfl
def run {R : Type} (k : Nat) (a0 a1 : GV) (h : Heap) (fin : GV → Heap → Option R) : Option R := n0 k (fun x v4 v5 h => kend x ((kloadA 3 h v4).bind fun w4 => fin (.tup [w4, v5]) h)) a0 a1 h
theorem gives {k : Nat} {a0 a1 : GV} {b : Nat} {q : GV × List (List GV)} (e : run k a0 a1 [] (finO b) = some q) : OO fn.impl_Fall [a0, a1] b = some q := oω_of (((kfun_eq (nt := 11) (c := c0) (show PP.funcs[fn.impl_Fall]? = some Try.f17 by kernel_rfl) (by kernel_rfl) (by kernel_rfl) (fun x σ h => by cases x <;> kernel_rfl)).trans (n0_eq k _ [] _)).trans e)
end S.impl_Fall
namespace S.spec_l17Fall
noncomputable def c0 := bodyOf Try.f98
noncomputable def c1 := cR c0
noncomputable def c2 := cR c1
noncomputable def c3 := cR c2
noncomputable def c4 := cR c3
noncomputable def c5 := cR c4
noncomputable def c6 := cR c5
noncomputable def c7 := cR c6
noncomputable def c8 := cR c7
@[simp] def n8 {R : Type} (k : Nat) (G : KT1 R) (v0 v4 v6 v7 v8 : GV) (h : Heap) := (knil v0).bind fun v182 => (kfa 0 v182).bind fun v183 => (kstore 1 h v183 v6).bind fun h => (knil v0).bind fun v186 => (kfa 1 v186).bind fun v187 => (kstore 1 h v187 v7).bind fun h => (knil v0).bind fun v190 => (kfa 2 v190).bind fun v191 => (kstore 1 h v191 v8).bind fun h => G .ret (.bool true) h
theorem n8_eq (G : KT1 R) : KC k 192 c8 σ h (Q1 G 4) = W5 (n8 k G) 0 4 6 7 8 σ h := by kernel_rfl
noncomputable def c9 := cL c7
@[simp] def n7 (G : KT1 R) (v0 v1 v4 v5 v6 v7 v8 : GV) (h : Heap) := (kbin .sub v5 (.int .i64 1)).bind fun v149 => (kbin .eql v1 v149).bind fun v150 => kcond v150 ((kbin .sub v5 (.int .i64 2)).bind fun v153 => (kia 2 v6 v153).bind fun v154 => (knil v154).bind fun v157 => (kfa 0 v157).bind fun v158 => (kload1 h v158).bind fun v159 => (klen v159).bind fun v160 => (knil v154).bind fun v161 => (kfa 1 v161).bind fun v162 => (kstore 1 h v162 v160).bind fun h => (kbin .gtr v5 (.int .i64 2)).bind fun v164 => kcond v164 ((kbin .sub v5 (.int .i64 3)).bind fun v167 => (kbin .sub v5 (.int .i64 3)).bind fun v170 => (kia 1 v8 v170).bind fun v171 => (kload1 h v171).bind fun v172 => (knil v154).bind fun v174 => (kfa 1 v174).bind fun v175 => (kload1 h v175).bind fun v176 => (gfill (fun i => some (i * 1, 1)) (zeros [(.int .i64 0)] 1) [(0, v176)]).bind fun c => kbs 1 1 c h fun v177 h => (kapp [(.int .i64 0)] 1 8 v172 v177 h).bind fun r => kr r fun v178 h => (kia 1 v8 v167).bind fun v179 => (kstore 1 h v179 v178).bind fun h => n8 k G v0 v4 v6 v7 v8 h) (n8 k G v0 v4 v6 v7 v8 h)) (n8 k G v0 v4 v6 v7 v8 h)
theorem n7_eq (G : KT1 R) : KC k 192 c7 σ h (Q1 G 4) = W7 (n7 k G) 0 1 4 5 6 7 8 σ h := (kseq (a := c9) (b := c8) rfl (fun σ h => n8_eq k σ h G)).trans (by kernel_rfl)
noncomputable def c10 := cL c6
noncomputable def c11 := cR c10
noncomputable def c12 := cL c11
noncomputable def c13 := cL c12
noncomputable def c14 := cR c13
noncomputable def c15 := cR c14
@[simp] def n15 {R : Type} (k : Nat) (G : KT8 R) (v0 v1 v4 v5 v6 v7 v8 v9 : GV) (h : Heap) := (kbin .add v9 (.int .i64 1)).bind fun v49 => G .nrm v0 v1 v4 v5 v6 v7 v8 v49 h
theorem n15_eq (G : KT8 R) : KC k 192 c15 σ h (Q8 G 0 1 4 5 6 7 8 9) = W8 (n15 k G) 0 1 4 5 6 7 8 9 σ h := by kernel_rfl
noncomputable def c16 := cL c14
noncomputable def c17 := cL c16
noncomputable def c18 := cL c17
noncomputable def c19 := cR c18
noncomputable def c20 := cL c19
noncomputable def c21 := cR c20
noncomputable def c22 := cR c21
noncomputable def c23 := cR c22
@[simp] def n23 {R : Type} (k : Nat) (G : KT8 R) (v0 v1 v4 v5 v6 v7 v8 v9 v10 : GV) (h : Heap) := (gfill (fun i => some (i * 1, 1)) (zeros [.nils] 1) [(0, v10)]).bind fun c => kbs 1 1 c h fun v115 h => (kapp [.nils] 1 24 v8 v115 h).bind fun r => kr r fun v116 h => G .nrm v0 v1 v4 v5 v6 v7 v116 v9 h
theorem n23_eq (G : KT8 R) : KC k 192 c23 σ h (Q8 G 0 1 4 5 6 7 8 9) = W9 (n23 k G) 0 1 4 5 6 7 8 9 10 σ h := by kernel_rfl
noncomputable def c24 := cL c22
@[simp] def n22 (G : KT8 R) (v0 v1 v4 v5 v6 v7 v8 v9 v10 : GV) (h : Heap) := (knil v0).bind fun v83 => (kfa 0 v83).bind fun v84 => (kload1 h v84).bind fun v85 => (kbin .add v1 (.int .i64 1)).bind fun v87 => (kia 2 v85 v87).bind fun v88 => (kfa 1 v88).bind fun v89 => (kload1 h v89).bind fun v90 => (knil v0).bind fun v92 => (kfa 0 v92).bind fun v93 => (kload1 h v93).bind fun v94 => (kbin .sub v1 (.int .i64 1)).bind fun v96 => (kia 2 v94 v96).bind fun v97 => (kfa 1 v97).bind fun v98 => (kload1 h v98).bind fun v99 => (kbin .gtr v90 v99).bind fun v100 => kcond v100 ((knil v0).bind fun v103 => (kfa 0 v103).bind fun v104 => (kload1 h v104).bind fun v105 => (kbin .add v1 (.int .i64 1)).bind fun v107 => (kia 2 v105 v107).bind fun v108 => (kfa 1 v108).bind fun v109 => (kload1 h v109).bind fun v110 => (gfill (fun i => some (i * 1, 1)) (zeros [(.int .i64 0)] 1) [(0, v110)]).bind fun c => kbs 1 1 c h fun v111 h => (kapp [(.int .i64 0)] 1 8 v10 v111 h).bind fun r => kr r fun v112 h => n23 k G v0 v1 v4 v5 v6 v7 v8 v9 v112 h) (n23 k G v0 v1 v4 v5 v6 v7 v8 v9 v10 h)
theorem n22_eq (G : KT8 R) : KC k 192 c22 σ h (Q8 G 0 1 4 5 6 7 8 9) = W9 (n22 k G) 0 1 4 5 6 7 8 9 10 σ h := (kseq (a := c24) (b := c23) rfl (fun σ h => n23_eq k σ h G)).trans (by kernel_rfl)
noncomputable def c25 := cL c21
@[simp] def n21 (G : KT8 R) (v0 v1 v4 v5 v6 v7 v8 v9 : GV) (h : Heap) := n22 k G v0 v1 v4 v5 v6 v7 v8 v9 .emp h
theorem n21_eq (G : KT8 R) : KC k 192 c21 σ h (Q8 G 0 1 4 5 6 7 8 9) = W8 (n21 k G) 0 1 4 5 6 7 8 9 σ h := (kseq (a := c25) (b := c22) rfl (fun σ h => n22_eq k σ h G)).trans (by kernel_rfl)
noncomputable def c26 := cL c20
noncomputable def o26 : Array Oper := cO c26
@[simp] def g26_0 {R : Type} (k : Nat) (G : KT8 R) (v0 v1 v4 v5 v6 v7 v8 v9 : GV) (rs : List Rec) (h : Heap) := (knil v0).bind fun v63 => (kfa 1 v63).bind fun v64 => (kload1 h v64).bind fun v65 => (kia 1 v65 v1).bind fun v67 => (kload1 h v67).bind fun v68 => kold h fun h0 => (kF false HH fn.spec_l17Texts [v68] h).bind fun r => kr r fun v69 h => krs (rs ++ [⟨8, h0.length, h.length, ⟨[v68].flatMap (kborr h0), []⟩⟩]) fun rs => (knil v0).bind fun v71 => (kfa 1 v71).bind fun v72 => kold h fun h0 => (kload1 h v72).bind fun v73 => krs (rs ++ [⟨12, h0.length, h.length, ⟨kblk v72, []⟩⟩]) fun rs => (kbin .sub v1 (.int .i64 1)).bind fun v75 => (kia 1 v73 v75).bind fun v76 => kold h fun h0 => (kload1 h v76).bind fun v77 => krs (rs ++ [⟨16, h0.length, h.length, ⟨kblk v76, []⟩⟩]) fun rs => (kapp [(.str { data := #[] })] 1 16 v69 v77 h).bind fun r => kr r fun v78 h => (gfill (fun i => some (i * 1, 1)) (zeros [.nils] 1) [(0, v78)]).bind fun c => kbs 1 1 c h fun v79 h => (kapp [.nils] 1 24 v7 v79 h).bind fun r => kr r fun v80 h => bif chk [(8, 12), (8, 16)] rs then G .nrm v0 v1 v4 v5 v6 v80 v8 v9 h else none
theorem g26_0_eq (G : KT8 R) (rs : List Rec) (σ : GS) (h : Heap) : kgroupsD PP cfg NN HH 192 o26 [(8, 12), (8, 16)] [(none, [0, 1, 2, 3, 4, 5, 6, 7, 8, 9, 10, 11, 12, 13, 14, 15, 16, 17, 18, 19, 20])] rs σ h (fun rs σ h => bif chk [(8, 12), (8, 16)] rs then G .nrm (σ 0) (σ 1) (σ 4) (σ 5) (σ 6) (σ 7) (σ 8) (σ 9) h else none) = g26_0 k G (σ 0) (σ 1) (σ 4) (σ 5) (σ 6) (σ 7) (σ 8) (σ 9) rs h := by kernel_rfl
@[simp] def n26 (G : KT8 R) (v0 v1 v4 v5 v6 v7 v8 v9 : GV) (h : Heap) := g26_0 k G v0 v1 v4 v5 v6 v7 v8 v9 [] h
theorem n26_eq (G : KT8 R) : KC k 192 c26 σ h (Q8 G 0 1 4 5 6 7 8 9) = W8 (n26 k G) 0 1 4 5 6 7 8 9 σ h := (kregionD_eq (id := 11) (draw := true) (ops := o26) (gs := [(none, [0, 1, 2, 3, 4, 5, 6, 7, 8, 9, 10, 11, 12, 13, 14, 15, 16, 17, 18, 19, 20])]) (bad := [(8, 12), (8, 16)]) (by kernel_rfl) (by kernel_rfl) (by kernel_rfl) (by kernel_rfl) (by kernel_rfl)).trans (g26_0_eq k G [] σ h)
@[simp] def n20 (G : KT8 R) (v0 v1 v4 v5 v6 v7 v8 v9 : GV) (h : Heap) := n26 k (fun x v0 v1 v4 v5 v6 v7 v8 v9 h => kx x (n21 k G v0 v1 v4 v5 v6 v7 v8 v9 h) (G x v0 v1 v4 v5 v6 v7 v8 v9 h)) v0 v1 v4 v5 v6 v7 v8 v9 h
theorem n20_eq (G : KT8 R) : KC k 192 c20 σ h (Q8 G 0 1 4 5 6 7 8 9) = W8 (n20 k G) 0 1 4 5 6 7 8 9 σ h := (kseq (b := c21) rfl (fun σ h => n21_eq k σ h G)).trans (n26_eq k σ h (fun x v0 v1 v4 v5 v6 v7 v8 v9 h => kx x (n21 k G v0 v1 v4 v5 v6 v7 v8 v9 h) (G x v0 v1 v4 v5 v6 v7 v8 v9 h)))
noncomputable def c27 := cR c19
noncomputable def c28 := cR c27
@[simp] def n28 {R : Type} (k : Nat) (G : KT8 R) (v0 v1 v4 v5 v6 v7 v8 v9 v117 : GV) (h : Heap) := kcond v117 ((knil v0).bind fun v129 => (kfa 1 v129).bind fun v130 => (kload1 h v130).bind fun v131 => (kia 1 v131 v9).bind fun v133 => (kload1 h v133).bind fun v134 => (gfill (fun i => some (i * 1, 1)) (zeros [.nils] 1) [(0, v134)]).bind fun c => kbs 1 1 c h fun v135 h => (kapp [.nils] 1 24 v7 v135 h).bind fun r => kr r fun v136 h => (knil v0).bind fun v139 => (kfa 2 v139).bind fun v140 => (kload1 h v140).bind fun v141 => (kia 1 v141 v9).bind fun v143 => (kload1 h v143).bind fun v144 => (gfill (fun i => some (i * 1, 1)) (zeros [.nils] 1) [(0, v144)]).bind fun c => kbs 1 1 c h fun v145 h => (kapp [.nils] 1 24 v8 v145 h).bind fun r => kr r fun v146 h => G .nrm v0 v1 v4 v5 v6 v136 v146 v9 h) (G .nrm v0 v1 v4 v5 v6 v7 v8 v9 h)
theorem n28_eq (G : KT8 R) : KC k 192 c28 σ h (Q8 G 0 1 4 5 6 7 8 9) = W9 (n28 k G) 0 1 4 5 6 7 8 9 117 σ h := by kernel_rfl
noncomputable def c29 := cL c27
noncomputable def o29 : Array Oper := cO c29
@[simp] def g29_2 {R : Type} (k : Nat) (G : KT9 R) (v0 v1 v4 v5 v6 v7 v8 v9 v121 v125 : GV) (h : Heap) := (kpick v121 v125 (.bool false)).bind fun v126 => G .nrm v0 v1 v4 v5 v6 v7 v8 v9 v126 h
theorem g29_2_eq (G : KT9 R) : kgroups PP cfg NN HH 192 o29 [(none, [8, 9])] σ h (fun σ h => G .nrm (σ 0) (σ 1) (σ 4) (σ 5) (σ 6) (σ 7) (σ 8) (σ 9) (σ 117) h) = W10 (g29_2 k G) 0 1 4 5 6 7 8 9 121 125 σ h := by kernel_rfl
@[simp] def g29_1 (G : KT9 R) (v0 v1 v4 v5 v6 v7 v8 v9 v121 : GV) (h : Heap) := bif tr true v121 then (kbin .sub v1 (.int .i64 1)).bind fun v124 => (kbin .neq v9 v124).bind fun v125 => g29_2 k G v0 v1 v4 v5 v6 v7 v8 v9 v121 v125 h else g29_2 k G v0 v1 v4 v5 v6 v7 v8 v9 v121 .un h
theorem g29_1_eq (G : KT9 R) : kgroups PP cfg NN HH 192 o29 [(some (3, true), [4, 5, 6, 7]), (none, [8, 9])] σ h (fun σ h => G .nrm (σ 0) (σ 1) (σ 4) (σ 5) (σ 6) (σ 7) (σ 8) (σ 9) (σ 117) h) = W9 (g29_1 k G) 0 1 4 5 6 7 8 9 121 σ h := (kgroups_cons (fun σ h => g29_2_eq k σ h G)).trans (by kernel_rfl)
@[simp] def g29_0 (G : KT9 R) (v0 v1 v4 v5 v6 v7 v8 v9 : GV) (h : Heap) := (kbin .neq v9 v1).bind fun v120 => g29_1 k G v0 v1 v4 v5 v6 v7 v8 v9 v120 h
theorem g29_0_eq (G : KT9 R) : kgroups PP cfg NN HH 192 o29 [(none, [0, 1, 2, 3]), (some (3, true), [4, 5, 6, 7]), (none, [8, 9])] σ h (fun σ h => G .nrm (σ 0) (σ 1) (σ 4) (σ 5) (σ 6) (σ 7) (σ 8) (σ 9) (σ 117) h) = W8 (g29_0 k G) 0 1 4 5 6 7 8 9 σ h := (kgroups_cons (fun σ h => g29_1_eq k σ h G)).trans (by kernel_rfl)
@[simp] def n29 (G : KT9 R) (v0 v1 v4 v5 v6 v7 v8 v9 : GV) (h : Heap) := g29_0 k G v0 v1 v4 v5 v6 v7 v8 v9 h
theorem n29_eq (G : KT9 R) : KC k 192 c29 σ h (Q9 G 0 1 4 5 6 7 8 9 117) = W8 (n29 k G) 0 1 4 5 6 7 8 9 σ h := (kregion_eq (id := 16) (draw := false) (ops := o29) (gs := [(none, [0, 1, 2, 3]), (some (3, true), [4, 5, 6, 7]), (none, [8, 9])]) (by kernel_rfl) (by kernel_rfl) (by kernel_rfl)).trans (g29_0_eq k σ h G)
@[simp] def n27 (G : KT8 R) (v0 v1 v4 v5 v6 v7 v8 v9 : GV) (h : Heap) := n29 k (fun x v0 v1 v4 v5 v6 v7 v8 v9 v117 h => kx x (n28 k G v0 v1 v4 v5 v6 v7 v8 v9 v117 h) (G x v0 v1 v4 v5 v6 v7 v8 v9 h)) v0 v1 v4 v5 v6 v7 v8 v9 h
theorem n27_eq (G : KT8 R) : KC k 192 c27 σ h (Q8 G 0 1 4 5 6 7 8 9) = W8 (n27 k G) 0 1 4 5 6 7 8 9 σ h := (kseq (b := c28) rfl (fun σ h => n28_eq k σ h G)).trans (n29_eq k σ h (fun x v0 v1 v4 v5 v6 v7 v8 v9 v117 h => kx x (n28 k G v0 v1 v4 v5 v6 v7 v8 v9 v117 h) (G x v0 v1 v4 v5 v6 v7 v8 v9 h)))
@[simp] def n19 (G : KT8 R) (v0 v1 v4 v5 v6 v7 v8 v9 v50 : GV) (h : Heap) := kcond v50 (n20 k G v0 v1 v4 v5 v6 v7 v8 v9 h) (n27 k G v0 v1 v4 v5 v6 v7 v8 v9 h)
theorem n19_eq (G : KT8 R) : KC k 192 c19 σ h (Q8 G 0 1 4 5 6 7 8 9) = W9 (n19 k G) 0 1 4 5 6 7 8 9 50 σ h := (kcond_eq (a := c20) (b := c27) rfl (by rfl)).trans (congr (congrArg (kcond (σ 50)) (n20_eq k σ h G)) (n27_eq k σ h G))
noncomputable def c30 := cL c18
noncomputable def o30 : Array Oper := cO c30
@[simp] def g30_2 {R : Type} (k : Nat) (G : KT9 R) (v0 v1 v4 v5 v6 v7 v8 v9 v55 v59 : GV) (h : Heap) := (kpick v55 v59 (.bool false)).bind fun v60 => G .nrm v0 v1 v4 v5 v6 v7 v8 v9 v60 h
theorem g30_2_eq (G : KT9 R) : kgroups PP cfg NN HH 192 o30 [(none, [9, 10])] σ h (fun σ h => G .nrm (σ 0) (σ 1) (σ 4) (σ 5) (σ 6) (σ 7) (σ 8) (σ 9) (σ 50) h) = W10 (g30_2 k G) 0 1 4 5 6 7 8 9 55 59 σ h := by kernel_rfl
@[simp] def g30_1 (G : KT9 R) (v0 v1 v4 v5 v6 v7 v8 v9 v55 : GV) (h : Heap) := bif tr true v55 then (kbin .sub v5 (.int .i64 1)).bind fun v58 => (kbin .lss v1 v58).bind fun v59 => g30_2 k G v0 v1 v4 v5 v6 v7 v8 v9 v55 v59 h else g30_2 k G v0 v1 v4 v5 v6 v7 v8 v9 v55 .un h
theorem g30_1_eq (G : KT9 R) : kgroups PP cfg NN HH 192 o30 [(some (4, true), [5, 6, 7, 8]), (none, [9, 10])] σ h (fun σ h => G .nrm (σ 0) (σ 1) (σ 4) (σ 5) (σ 6) (σ 7) (σ 8) (σ 9) (σ 50) h) = W9 (g30_1 k G) 0 1 4 5 6 7 8 9 55 σ h := (kgroups_cons (fun σ h => g30_2_eq k σ h G)).trans (by kernel_rfl)
@[simp] def g30_0 (G : KT9 R) (v0 v1 v4 v5 v6 v7 v8 v9 : GV) (h : Heap) := (kbin .sub v1 (.int .i64 1)).bind fun v53 => (kbin .eql v9 v53).bind fun v54 => g30_1 k G v0 v1 v4 v5 v6 v7 v8 v9 v54 h
theorem g30_0_eq (G : KT9 R) : kgroups PP cfg NN HH 192 o30 [(none, [0, 1, 2, 3, 4]), (some (4, true), [5, 6, 7, 8]), (none, [9, 10])] σ h (fun σ h => G .nrm (σ 0) (σ 1) (σ 4) (σ 5) (σ 6) (σ 7) (σ 8) (σ 9) (σ 50) h) = W8 (g30_0 k G) 0 1 4 5 6 7 8 9 σ h := (kgroups_cons (fun σ h => g30_1_eq k σ h G)).trans (by kernel_rfl)
@[simp] def n30 (G : KT9 R) (v0 v1 v4 v5 v6 v7 v8 v9 : GV) (h : Heap) := g30_0 k G v0 v1 v4 v5 v6 v7 v8 v9 h
theorem n30_eq (G : KT9 R) : KC k 192 c30 σ h (Q9 G 0 1 4 5 6 7 8 9 50) = W8 (n30 k G) 0 1 4 5 6 7 8 9 σ h := (kregion_eq (id := 10) (draw := false) (ops := o30) (gs := [(none, [0, 1, 2, 3, 4]), (some (4, true), [5, 6, 7, 8]), (none, [9, 10])]) (by kernel_rfl) (by kernel_rfl) (by kernel_rfl)).trans (g30_0_eq k σ h G)
@[simp] def n18 (G : KT8 R) (v0 v1 v4 v5 v6 v7 v8 v9 : GV) (h : Heap) := n30 k (fun x v0 v1 v4 v5 v6 v7 v8 v9 v50 h => kx x (n19 k G v0 v1 v4 v5 v6 v7 v8 v9 v50 h) (G x v0 v1 v4 v5 v6 v7 v8 v9 h)) v0 v1 v4 v5 v6 v7 v8 v9 h
theorem n18_eq (G : KT8 R) : KC k 192 c18 σ h (Q8 G 0 1 4 5 6 7 8 9) = W8 (n18 k G) 0 1 4 5 6 7 8 9 σ h := (kseq (b := c19) rfl (fun σ h => n19_eq k σ h G)).trans (n30_eq k σ h (fun x v0 v1 v4 v5 v6 v7 v8 v9 v50 h => kx x (n19 k G v0 v1 v4 v5 v6 v7 v8 v9 v50 h) (G x v0 v1 v4 v5 v6 v7 v8 v9 h)))
@[simp] def n17 (G : KT8 R) (v0 v1 v4 v5 v6 v7 v8 v9 : GV) (h : Heap) := n18 k (fun x v0 v1 v4 v5 v6 v7 v8 v9 h => kb 2 x fun x => G x v0 v1 v4 v5 v6 v7 v8 v9 h) v0 v1 v4 v5 v6 v7 v8 v9 h
theorem n17_eq (G : KT8 R) : KC k 192 c17 σ h (Q8 G 0 1 4 5 6 7 8 9) = W8 (n17 k G) 0 1 4 5 6 7 8 9 σ h := (kblock_eq (a := c18) rfl).trans (n18_eq k σ h (fun x v0 v1 v4 v5 v6 v7 v8 v9 h => kb 2 x fun x => G x v0 v1 v4 v5 v6 v7 v8 v9 h))
@[simp] def n16 (G : KT8 R) (v0 v1 v4 v5 v6 v7 v8 v9 : GV) (h : Heap) := n17 k (fun x v0 v1 v4 v5 v6 v7 v8 v9 h => kb 1 x fun x => G x v0 v1 v4 v5 v6 v7 v8 v9 h) v0 v1 v4 v5 v6 v7 v8 v9 h
theorem n16_eq (G : KT8 R) : KC k 192 c16 σ h (Q8 G 0 1 4 5 6 7 8 9) = W8 (n16 k G) 0 1 4 5 6 7 8 9 σ h := (kblock_eq (a := c17) rfl).trans (n17_eq k σ h (fun x v0 v1 v4 v5 v6 v7 v8 v9 h => kb 1 x fun x => G x v0 v1 v4 v5 v6 v7 v8 v9 h))
@[simp] def n14 (G : KT8 R) (v0 v1 v4 v5 v6 v7 v8 v9 : GV) (h : Heap) := n16 k (fun x v0 v1 v4 v5 v6 v7 v8 v9 h => kx x (n15 k G v0 v1 v4 v5 v6 v7 v8 v9 h) (G x v0 v1 v4 v5 v6 v7 v8 v9 h)) v0 v1 v4 v5 v6 v7 v8 v9 h
theorem n14_eq (G : KT8 R) : KC k 192 c14 σ h (Q8 G 0 1 4 5 6 7 8 9) = W8 (n14 k G) 0 1 4 5 6 7 8 9 σ h := (kseq (b := c15) rfl (fun σ h => n15_eq k σ h G)).trans (n16_eq k σ h (fun x v0 v1 v4 v5 v6 v7 v8 v9 h => kx x (n15 k G v0 v1 v4 v5 v6 v7 v8 v9 h) (G x v0 v1 v4 v5 v6 v7 v8 v9 h)))
noncomputable def c31 := cL c13
@[simp] def n13 (G : KT8 R) (v0 v1 v4 v5 v6 v7 v8 v9 : GV) (h : Heap) := (kbin .sub v5 (.int .i64 1)).bind fun v46 => (kbin .lss v9 v46).bind fun v47 => kcond v47 (n14 k G v0 v1 v4 v5 v6 v7 v8 v9 h) (G (.ext 0) v0 v1 v4 v5 v6 v7 v8 v9 h)
theorem n13_eq (G : KT8 R) : KC k 192 c13 σ h (Q8 G 0 1 4 5 6 7 8 9) = W8 (n13 k G) 0 1 4 5 6 7 8 9 σ h := (kseq (a := c31) (b := c14) rfl (fun σ h => n14_eq k σ h G)).trans (by kernel_rfl)
def l12 {R : Type} (k : Nat) (G : KT7 R) : Nat → GV → GV → GV → GV → GV → GV → GV → GV → Heap → Option R
  | 0, _, _, _, _, _, _, _, _, _ => none
  | r + 1, v0, v1, v4, v5, v6, v7, v8, v9, h => n13 k (fun x v0 v1 v4 v5 v6 v7 v8 v9 h => kx x (l12 k G r v0 v1 v4 v5 v6 v7 v8 v9 h) (G x v0 v1 v4 v5 v6 v7 v8 h)) v0 v1 v4 v5 v6 v7 v8 v9 h
theorem l12_eq {R : Type} (k : Nat) (G : KT7 R) : ∀ (r : Nat) (σ : GS) (h : Heap), kloop (fun σ h K => KC k 192 c13 σ h K) r σ h (Q7 G 0 1 4 5 6 7 8) = l12 k G r (σ 0) (σ 1) (σ 4) (σ 5) (σ 6) (σ 7) (σ 8) (σ 9) h
  | 0, _, _ => rfl
  | r + 1, σ, h => (kloop_eq (fun σ h => l12_eq k G r σ h)).trans (n13_eq k σ h (fun x v0 v1 v4 v5 v6 v7 v8 v9 h => kx x (l12 k G r v0 v1 v4 v5 v6 v7 v8 v9 h) (G x v0 v1 v4 v5 v6 v7 v8 h)))
@[simp] def n12 (G : KT7 R) (v0 v1 v4 v5 v6 v7 v8 v9 : GV) (h : Heap) := l12 k G k v0 v1 v4 v5 v6 v7 v8 v9 h
theorem n12_eq (G : KT7 R) : KC k 192 c12 σ h (Q7 G 0 1 4 5 6 7 8) = W8 (n12 k G) 0 1 4 5 6 7 8 9 σ h := (kloopc_eq (a := c13) rfl).trans (l12_eq k G k σ h)
@[simp] def n11 (G : KT7 R) (v0 v1 v4 v5 v6 v7 v8 v9 : GV) (h : Heap) := n12 k (fun x v0 v1 v4 v5 v6 v7 v8 h => kb 0 x fun x => G x v0 v1 v4 v5 v6 v7 v8 h) v0 v1 v4 v5 v6 v7 v8 v9 h
theorem n11_eq (G : KT7 R) : KC k 192 c11 σ h (Q7 G 0 1 4 5 6 7 8) = W8 (n11 k G) 0 1 4 5 6 7 8 9 σ h := (kblock_eq (a := c12) rfl).trans (n12_eq k σ h (fun x v0 v1 v4 v5 v6 v7 v8 h => kb 0 x fun x => G x v0 v1 v4 v5 v6 v7 v8 h))
noncomputable def c32 := cL c10
@[simp] def n10 (G : KT7 R) (v0 v1 v4 v5 v6 v7 v8 : GV) (h : Heap) := n11 k G v0 v1 v4 v5 v6 v7 v8 (.int .i64 0) h
theorem n10_eq (G : KT7 R) : KC k 192 c10 σ h (Q7 G 0 1 4 5 6 7 8) = W7 (n10 k G) 0 1 4 5 6 7 8 σ h := (kseq (a := c32) (b := c11) rfl (fun σ h => n11_eq k σ h G)).trans (by kernel_rfl)
@[simp] def n6 (G : KT1 R) (v0 v1 v4 v5 v6 v7 v8 : GV) (h : Heap) := n10 k (fun x v0 v1 v4 v5 v6 v7 v8 h => kx x (n7 k G v0 v1 v4 v5 v6 v7 v8 h) (G x v4 h)) v0 v1 v4 v5 v6 v7 v8 h
theorem n6_eq (G : KT1 R) : KC k 192 c6 σ h (Q1 G 4) = W7 (n6 k G) 0 1 4 5 6 7 8 σ h := (kseq (b := c7) rfl (fun σ h => n7_eq k σ h G)).trans (n10_eq k σ h (fun x v0 v1 v4 v5 v6 v7 v8 h => kx x (n7 k G v0 v1 v4 v5 v6 v7 v8 h) (G x v4 h)))
noncomputable def c33 := cL c5
@[simp] def n5 (G : KT1 R) (v0 v1 v4 v5 v6 v7 : GV) (h : Heap) := n6 k G v0 v1 v4 v5 v6 v7 .emp h
theorem n5_eq (G : KT1 R) : KC k 192 c5 σ h (Q1 G 4) = W6 (n5 k G) 0 1 4 5 6 7 σ h := (kseq (a := c33) (b := c6) rfl (fun σ h => n6_eq k σ h G)).trans (by kernel_rfl)
noncomputable def c34 := cL c4
@[simp] def n4 (G : KT1 R) (v0 v1 v4 v5 v6 : GV) (h : Heap) := n5 k G v0 v1 v4 v5 v6 .emp h
theorem n4_eq (G : KT1 R) : KC k 192 c4 σ h (Q1 G 4) = W5 (n4 k G) 0 1 4 5 6 σ h := (kseq (a := c34) (b := c5) rfl (fun σ h => n5_eq k σ h G)).trans (by kernel_rfl)
noncomputable def c35 := cL c3
noncomputable def o35 : Array Oper := cO c35
@[simp] def g35_0 {R : Type} (k : Nat) (G : KT5 R) (v0 v1 v4 v5 : GV) (rs : List Rec) (h : Heap) := kold h fun h0 => krs (rs ++ [⟨0, h0.length, h.length, ⟨[], []⟩⟩]) fun rs => (knil v0).bind fun v28 => (kfa 0 v28).bind fun v29 => kold h fun h0 => (kload1 h v29).bind fun v30 => krs (rs ++ [⟨4, h0.length, h.length, ⟨kblk v29, []⟩⟩]) fun rs => (ksl 2 v30 none (some v1) none).bind fun v32 => kold h fun h0 => (kapp [.nils, (.int .i64 0)] 2 32 .emp v32 h).bind fun r => kr r fun v33 h => krs (rs ++ [⟨7, h0.length, h.length, ⟨kblk .emp ++ kblk v32, kblk .emp⟩⟩]) fun rs => (knil v0).bind fun v35 => (kfa 0 v35).bind fun v36 => kold h fun h0 => (kload1 h v36).bind fun v37 => krs (rs ++ [⟨11, h0.length, h.length, ⟨kblk v36, []⟩⟩]) fun rs => (kbin .add v1 (.int .i64 1)).bind fun v39 => (ksl 2 v37 (some v39) none none).bind fun v40 => (kapp [.nils, (.int .i64 0)] 2 32 v33 v40 h).bind fun r => kr r fun v41 h => bif chk [(0, 4), (0, 11), (7, 11)] rs then G .nrm v0 v1 v4 v5 v41 h else none
theorem g35_0_eq (G : KT5 R) (rs : List Rec) (σ : GS) (h : Heap) : kgroupsD PP cfg NN HH 192 o35 [(0, 4), (0, 11), (7, 11)] [(none, [0, 1, 2, 3, 4, 5, 6, 7, 8, 9, 10, 11, 12, 13, 14, 15, 16])] rs σ h (fun rs σ h => bif chk [(0, 4), (0, 11), (7, 11)] rs then G .nrm (σ 0) (σ 1) (σ 4) (σ 5) (σ 6) h else none) = g35_0 k G (σ 0) (σ 1) (σ 4) (σ 5) rs h := by kernel_rfl
@[simp] def n35 (G : KT5 R) (v0 v1 v4 v5 : GV) (h : Heap) := g35_0 k G v0 v1 v4 v5 [] h
theorem n35_eq (G : KT5 R) : KC k 192 c35 σ h (Q5 G 0 1 4 5 6) = W4 (n35 k G) 0 1 4 5 σ h := (kregionD_eq (id := 4) (draw := true) (ops := o35) (gs := [(none, [0, 1, 2, 3, 4, 5, 6, 7, 8, 9, 10, 11, 12, 13, 14, 15, 16])]) (bad := [(0, 4), (0, 11), (7, 11)]) (by kernel_rfl) (by kernel_rfl) (by kernel_rfl) (by kernel_rfl) (by kernel_rfl)).trans (g35_0_eq k G [] σ h)
@[simp] def n3 (G : KT1 R) (v0 v1 v4 v5 : GV) (h : Heap) := n35 k (fun x v0 v1 v4 v5 v6 h => kx x (n4 k G v0 v1 v4 v5 v6 h) (G x v4 h)) v0 v1 v4 v5 h
theorem n3_eq (G : KT1 R) : KC k 192 c3 σ h (Q1 G 4) = W4 (n3 k G) 0 1 4 5 σ h := (kseq (b := c4) rfl (fun σ h => n4_eq k σ h G)).trans (n35_eq k σ h (fun x v0 v1 v4 v5 v6 h => kx x (n4 k G v0 v1 v4 v5 v6 h) (G x v4 h)))
noncomputable def c36 := cL c2
noncomputable def c37 := cR c36
@[simp] def n37 {R : Type} (k : Nat) (G : KT4 R) (v0 v1 v4 v5 v25 : GV) (h : Heap) := kcond v25 (G .ret v0 v1 (.bool false) v5 h) (G .nrm v0 v1 v4 v5 h)
theorem n37_eq (G : KT4 R) : KC k 192 c37 σ h (Q4 G 0 1 4 5) = W5 (n37 k G) 0 1 4 5 25 σ h := by kernel_rfl
noncomputable def c38 := cL c36
noncomputable def o38 : Array Oper := cO c38
@[simp] def g38_2 {R : Type} (k : Nat) (G : KT5 R) (v0 v1 v4 v5 v19 v24 : GV) (h : Heap) := (kpick v19 (.bool true) v24).bind fun v25 => G .nrm v0 v1 v4 v5 v25 h
theorem g38_2_eq (G : KT5 R) : kgroups PP cfg NN HH 192 o38 [(none, [8])] σ h (fun σ h => G .nrm (σ 0) (σ 1) (σ 4) (σ 5) (σ 25) h) = W6 (g38_2 k G) 0 1 4 5 19 24 σ h := by kernel_rfl
@[simp] def g38_1 (G : KT5 R) (v0 v1 v4 v5 v19 : GV) (h : Heap) := bif tr false v19 then (kbin .sub v5 (.int .i64 1)).bind fun v22 => (kN NN fn.spec_l1In [v1, (.int .i64 0), v22] h).bind fun v23 => (kun .not v23).bind fun v24 => g38_2 k G v0 v1 v4 v5 v19 v24 h else g38_2 k G v0 v1 v4 v5 v19 .un h
theorem g38_1_eq (G : KT5 R) : kgroups PP cfg NN HH 192 o38 [(some (2, false), [3, 4, 5, 6, 7]), (none, [8])] σ h (fun σ h => G .nrm (σ 0) (σ 1) (σ 4) (σ 5) (σ 25) h) = W5 (g38_1 k G) 0 1 4 5 19 σ h := (kgroups_cons (fun σ h => g38_2_eq k σ h G)).trans (by kernel_rfl)
@[simp] def g38_0 (G : KT5 R) (v0 v1 v4 v5 : GV) (h : Heap) := (kbin .lss v5 (.int .i64 2)).bind fun v18 => g38_1 k G v0 v1 v4 v5 v18 h
theorem g38_0_eq (G : KT5 R) : kgroups PP cfg NN HH 192 o38 [(none, [0, 1, 2]), (some (2, false), [3, 4, 5, 6, 7]), (none, [8])] σ h (fun σ h => G .nrm (σ 0) (σ 1) (σ 4) (σ 5) (σ 25) h) = W4 (g38_0 k G) 0 1 4 5 σ h := (kgroups_cons (fun σ h => g38_1_eq k σ h G)).trans (by kernel_rfl)
@[simp] def n38 (G : KT5 R) (v0 v1 v4 v5 : GV) (h : Heap) := g38_0 k G v0 v1 v4 v5 h
theorem n38_eq (G : KT5 R) : KC k 192 c38 σ h (Q5 G 0 1 4 5 25) = W4 (n38 k G) 0 1 4 5 σ h := (kregion_eq (id := 2) (draw := false) (ops := o38) (gs := [(none, [0, 1, 2]), (some (2, false), [3, 4, 5, 6, 7]), (none, [8])]) (by kernel_rfl) (by kernel_rfl) (by kernel_rfl)).trans (g38_0_eq k σ h G)
@[simp] def n36 (G : KT4 R) (v0 v1 v4 v5 : GV) (h : Heap) := n38 k (fun x v0 v1 v4 v5 v25 h => kx x (n37 k G v0 v1 v4 v5 v25 h) (G x v0 v1 v4 v5 h)) v0 v1 v4 v5 h
theorem n36_eq (G : KT4 R) : KC k 192 c36 σ h (Q4 G 0 1 4 5) = W4 (n36 k G) 0 1 4 5 σ h := (kseq (b := c37) rfl (fun σ h => n37_eq k σ h G)).trans (n38_eq k σ h (fun x v0 v1 v4 v5 v25 h => kx x (n37 k G v0 v1 v4 v5 v25 h) (G x v0 v1 v4 v5 h)))
@[simp] def n2 (G : KT1 R) (v0 v1 v4 v5 : GV) (h : Heap) := n36 k (fun x v0 v1 v4 v5 h => kx x (n3 k G v0 v1 v4 v5 h) (G x v4 h)) v0 v1 v4 v5 h
theorem n2_eq (G : KT1 R) : KC k 192 c2 σ h (Q1 G 4) = W4 (n2 k G) 0 1 4 5 σ h := (kseq (b := c3) rfl (fun σ h => n3_eq k σ h G)).trans (n36_eq k σ h (fun x v0 v1 v4 v5 h => kx x (n3 k G v0 v1 v4 v5 h) (G x v4 h)))
noncomputable def c39 := cL c1
@[simp] def n1 (G : KT1 R) (v0 v1 v4 : GV) (h : Heap) := (knil v0).bind fun v13 => (kfa 0 v13).bind fun v14 => (kload1 h v14).bind fun v15 => (klen v15).bind fun v16 => n2 k G v0 v1 v4 v16 h
theorem n1_eq (G : KT1 R) : KC k 192 c1 σ h (Q1 G 4) = W3 (n1 k G) 0 1 4 σ h := (kseq (a := c39) (b := c2) rfl (fun σ h => n2_eq k σ h G)).trans (by kernel_rfl)
noncomputable def c40 := cL c0
@[simp] def n0 (G : KT1 R) (v0 v1 : GV) (h : Heap) := n1 k G v0 v1 (.bool false) h
theorem n0_eq (G : KT1 R) : KC k 192 c0 σ h (Q1 G 4) = W2 (n0 k G) 0 1 σ h := (kseq (a := c40) (b := c1) rfl (fun σ h => n1_eq k σ h G)).trans (by kernel_rfl)
def run {R : Type} (k : Nat) (a0 a1 : GV) (h : Heap) (fin : GV → Heap → Option R) : Option R := n0 k (fun x v4 h => kend x (fin v4 h)) a0 a1 h
theorem gives {k : Nat} {a0 a1 : GV} {h : Heap} {r : GV × Heap} (e : run k a0 a1 h finH = some r) : HH fn.spec_l17Fall [a0, a1] h = some r := kω_of (((kfun_eq (nt := 192) (c := c0) (show PP.funcs[fn.spec_l17Fall]? = some Try.f98 by kernel_rfl) (by kernel_rfl) (by kernel_rfl) (fun x σ h => by cases x <;> kernel_rfl)).trans (n0_eq k _ h _)).trans e)
end S.spec_l17Fall
namespace S.impl_Fall_1
noncomputable def c0 := bodyOf Try.f103
noncomputable def c1 := cR c0
noncomputable def c2 := cR c1
@[simp] def n2 {R : Type} (k : Nat) (G : KT1 R) (v0 v1 v3 : GV) (h : Heap) := (kload1 h v1).bind fun v19 => (HH fn.impl_Chain_fall [v0, v19] h).bind fun r => kr r fun v20 h => G .ret (.bool true) h
theorem n2_eq (G : KT1 R) : KC k 21 c2 σ h (Q1 G 3) = W3 (n2 k G) 0 1 3 σ h := by kernel_rfl
noncomputable def c3 := cL c1
noncomputable def c4 := cR c3
@[simp] def n4 {R : Type} (k : Nat) (G : KT3 R) (v0 v1 v3 v17 : GV) (h : Heap) := kcond v17 (G .ret v0 v1 (.bool false) h) (G .nrm v0 v1 v3 h)
theorem n4_eq (G : KT3 R) : KC k 21 c4 σ h (Q3 G 0 1 3) = W4 (n4 k G) 0 1 3 17 σ h := by kernel_rfl
noncomputable def c5 := cL c3
noncomputable def o5 : Array Oper := cO c5
@[simp] def g5_2 {R : Type} (k : Nat) (G : KT4 R) (v0 v1 v3 v9 v16 : GV) (h : Heap) := (kpick v9 (.bool true) v16).bind fun v17 => G .nrm v0 v1 v3 v17 h
theorem g5_2_eq (G : KT4 R) : kgroups PP cfg NN HH 21 o5 [(none, [13])] σ h (fun σ h => G .nrm (σ 0) (σ 1) (σ 3) (σ 17) h) = W5 (g5_2 k G) 0 1 3 9 16 σ h := by kernel_rfl
@[simp] def g5_1 (G : KT4 R) (v0 v1 v3 v9 : GV) (h : Heap) := bif tr false v9 then (kload1 h v1).bind fun v10 => (knil v0).bind fun v12 => (kloadA 3 h v12).bind fun v13 => (kN NN fn.impl_Chain_last [v13] h).bind fun v14 => (kN NN fn.impl_in [v10, (.int .i64 0), v14] h).bind fun v15 => (kun .not v15).bind fun v16 => g5_2 k G v0 v1 v3 v9 v16 h else g5_2 k G v0 v1 v3 v9 .un h
theorem g5_1_eq (G : KT4 R) : kgroups PP cfg NN HH 21 o5 [(some (5, false), [6, 7, 8, 9, 10, 11, 12]), (none, [13])] σ h (fun σ h => G .nrm (σ 0) (σ 1) (σ 3) (σ 17) h) = W4 (g5_1 k G) 0 1 3 9 σ h := (kgroups_cons (fun σ h => g5_2_eq k σ h G)).trans (by kernel_rfl)
@[simp] def g5_0 (G : KT4 R) (v0 v1 v3 : GV) (h : Heap) := (knil v0).bind fun v5 => (kloadA 3 h v5).bind fun v6 => (kN NN fn.impl_Chain_last [v6] h).bind fun v7 => (kbin .eql v7 (.int .i64 0)).bind fun v8 => g5_1 k G v0 v1 v3 v8 h
theorem g5_0_eq (G : KT4 R) : kgroups PP cfg NN HH 21 o5 [(none, [0, 1, 2, 3, 4, 5]), (some (5, false), [6, 7, 8, 9, 10, 11, 12]), (none, [13])] σ h (fun σ h => G .nrm (σ 0) (σ 1) (σ 3) (σ 17) h) = W3 (g5_0 k G) 0 1 3 σ h := (kgroups_cons (fun σ h => g5_1_eq k σ h G)).trans (by kernel_rfl)
@[simp] def n5 (G : KT4 R) (v0 v1 v3 : GV) (h : Heap) := g5_0 k G v0 v1 v3 h
theorem n5_eq (G : KT4 R) : KC k 21 c5 σ h (Q4 G 0 1 3 17) = W3 (n5 k G) 0 1 3 σ h := (kregion_eq (id := 1) (draw := true) (ops := o5) (gs := [(none, [0, 1, 2, 3, 4, 5]), (some (5, false), [6, 7, 8, 9, 10, 11, 12]), (none, [13])]) (by kernel_rfl) (by kernel_rfl) (by kernel_rfl)).trans (g5_0_eq k σ h G)
@[simp] def n3 (G : KT3 R) (v0 v1 v3 : GV) (h : Heap) := n5 k (fun x v0 v1 v3 v17 h => kx x (n4 k G v0 v1 v3 v17 h) (G x v0 v1 v3 h)) v0 v1 v3 h
theorem n3_eq (G : KT3 R) : KC k 21 c3 σ h (Q3 G 0 1 3) = W3 (n3 k G) 0 1 3 σ h := (kseq (b := c4) rfl (fun σ h => n4_eq k σ h G)).trans (n5_eq k σ h (fun x v0 v1 v3 v17 h => kx x (n4 k G v0 v1 v3 v17 h) (G x v0 v1 v3 h)))
@[simp] def n1 (G : KT1 R) (v0 v1 v3 : GV) (h : Heap) := n3 k (fun x v0 v1 v3 h => kx x (n2 k G v0 v1 v3 h) (G x v3 h)) v0 v1 v3 h
theorem n1_eq (G : KT1 R) : KC k 21 c1 σ h (Q1 G 3) = W3 (n1 k G) 0 1 3 σ h := (kseq (b := c2) rfl (fun σ h => n2_eq k σ h G)).trans (n3_eq k σ h (fun x v0 v1 v3 h => kx x (n2 k G v0 v1 v3 h) (G x v3 h)))
noncomputable def c6 := cL c0
@[simp] def n0 (G : KT1 R) (v0 v1 : GV) (h : Heap) := n1 k G v0 v1 (.bool false) h
theorem n0_eq (G : KT1 R) : KC k 21 c0 σ h (Q1 G 3) = W2 (n0 k G) 0 1 σ h := (kseq (a := c6) (b := c1) rfl (fun σ h => n1_eq k σ h G)).trans (by kernel_rfl)
def run {R : Type} (k : Nat) (a0 a1 : GV) (h : Heap) (fin : GV → Heap → Option R) : Option R := n0 k (fun x v3 h => kend x (fin v3 h)) a0 a1 h
theorem gives {k : Nat} {a0 a1 : GV} {h : Heap} {r : GV × Heap} (e : run k a0 a1 h finH = some r) : HH fn.impl_Fall_1 [a0, a1] h = some r := kω_of (((kfun_eq (nt := 21) (c := c0) (show PP.funcs[fn.impl_Fall_1]? = some Try.f103 by kernel_rfl) (by kernel_rfl) (by kernel_rfl) (fun x σ h => by cases x <;> kernel_rfl)).trans (n0_eq k _ h _)).trans e)
end S.impl_Fall_1
namespace S.impl_Chain_fall
noncomputable def c0 := bodyOf Try.f106
noncomputable def c1 := cR c0
noncomputable def c2 := cR c1
noncomputable def c3 := cR c2
noncomputable def c4 := cR c3
noncomputable def c5 := cL c4
noncomputable def c6 := cR c5
noncomputable def c7 := cL c6
@[simp] def n7 {R : Type} (k : Nat) (G : KT0 R) (h : Heap) := G .nrm h
theorem n7_eq (G : KT0 R) : KC k 117 c7 σ h (Q0 G) = n7 k G h := by kernel_rfl
noncomputable def c8 := cR c6
noncomputable def c9 := cR c8
noncomputable def c10 := cL c9
@[simp] def n10 {R : Type} (k : Nat) (G : KT0 R) (v0 v1 : GV) (h : Heap) := (knil v0).bind fun v99 => (kfa 0 v99).bind fun v100 => (kload1 h v100).bind fun v101 => (kbin .sub v1 (.int .i64 1)).bind fun v103 => (kia 2 v101 v103).bind fun v104 => (knil v104).bind fun v107 => (kfa 0 v107).bind fun v108 => (kload1 h v108).bind fun v109 => (klen v109).bind fun v110 => (knil v104).bind fun v111 => (kfa 1 v111).bind fun v112 => (kstore 1 h v112 v110).bind fun h => (kbin .sub v1 (.int .i64 1)).bind fun v115 => (HH fn.impl_Chain_tell [v0, v115] h).bind fun r => kr r fun v116 h => G .nrm h
theorem n10_eq (G : KT0 R) : KC k 117 c10 σ h (Q0 G) = W2 (n10 k G) 0 1 σ h := by kernel_rfl
noncomputable def c11 := cR c9
noncomputable def c12 := cR c11
@[simp] def n12 {R : Type} (k : Nat) (G : KT0 R) (v0 v1 v5 v7 v8 : GV) (h : Heap) := (knil v0).bind fun v65 => (kfa 1 v65).bind fun v66 => (kload1 h v66).bind fun v67 => (knil v0).bind fun v70 => (kfa 2 v70).bind fun v71 => (kload1 h v71).bind fun v72 => (kfa 0 v7).bind fun v74 => (kload1 h v74).bind fun v75 => (kfa 0 v8).bind fun v76 => (kload1 h v76).bind fun v77 => (klen v77).bind fun v78 => (ksl 1 v75 (some v78) none none).bind fun v79 => (kF true HH fn.slices_Clone_string [v79] h).bind fun r => kr r fun v80 h => (kia 1 v67 v5).bind fun v81 => (kstore 1 h v81 v80).bind fun h => (kia 1 v72 v5).bind fun v82 => (kstore 1 h v82 .nils).bind fun h => (kfa 1 v8).bind fun v83 => (kload1 h v83).bind fun v84 => (kfa 1 v7).bind fun v85 => (kload1 h v85).bind fun v86 => (kbin .gtr v84 v86).bind fun v87 => kcond v87 ((HH fn.impl_Chain_tell [v0, v1] h).bind fun r => kr r fun v90 h => G .nrm h) (G .nrm h)
theorem n12_eq (G : KT0 R) : KC k 117 c12 σ h (Q0 G) = W5 (n12 k G) 0 1 5 7 8 σ h := by kernel_rfl
noncomputable def c13 := cL c11
noncomputable def o13 : Array Oper := cO c13
@[simp] def g13_0 {R : Type} (k : Nat) (G : KT5 R) (v0 v1 v5 : GV) (rs : List Rec) (h : Heap) := (knil v0).bind fun v50 => (kfa 0 v50).bind fun v51 => (kload1 h v51).bind fun v52 => (kbin .sub v1 (.int .i64 1)).bind fun v54 => (kia 2 v52 v54).bind fun v55 => (kloadA 2 h v55).bind fun v56 => (knil v0).bind fun v58 => (kfa 0 v58).bind fun v59 => kold h fun h0 => (kload1 h v59).bind fun v60 => krs (rs ++ [⟨11, h0.length, h.length, ⟨kblk v59, []⟩⟩]) fun rs => (kia 2 v60 v1).bind fun v62 => kold h fun h0 => (kloadA 2 h v62).bind fun v63 => krs (rs ++ [⟨14, h0.length, h.length, ⟨kblk v62, []⟩⟩]) fun rs => kalloc [.nils, (.int .i64 0)] h fun v7 h => kalloc [.nils, (.int .i64 0)] h fun v8 h => kold h fun h0 => (kstore 2 h v7 v56).bind fun h => krs (rs ++ [⟨17, h0.length, h.length, ⟨[], kblk v7⟩⟩]) fun rs => (kstore 2 h v8 v63).bind fun h => bif chk [(11, 17), (14, 17)] rs then G .nrm v0 v1 v5 v7 v8 h else none
theorem g13_0_eq (G : KT5 R) (rs : List Rec) (σ : GS) (h : Heap) : kgroupsD PP cfg NN HH 117 o13 [(11, 17), (14, 17)] [(none, [0, 1, 2, 3, 4, 5, 6, 7, 8, 9, 10, 11, 12, 13, 14, 15, 16, 17, 18])] rs σ h (fun rs σ h => bif chk [(11, 17), (14, 17)] rs then G .nrm (σ 0) (σ 1) (σ 5) (σ 7) (σ 8) h else none) = g13_0 k G (σ 0) (σ 1) (σ 5) rs h := by kernel_rfl
@[simp] def n13 (G : KT5 R) (v0 v1 v5 : GV) (h : Heap) := g13_0 k G v0 v1 v5 [] h
theorem n13_eq (G : KT5 R) : KC k 117 c13 σ h (Q5 G 0 1 5 7 8) = W3 (n13 k G) 0 1 5 σ h := (kregionD_eq (id := 4) (draw := true) (ops := o13) (gs := [(none, [0, 1, 2, 3, 4, 5, 6, 7, 8, 9, 10, 11, 12, 13, 14, 15, 16, 17, 18])]) (bad := [(11, 17), (14, 17)]) (by kernel_rfl) (by kernel_rfl) (by kernel_rfl) (by kernel_rfl) (by kernel_rfl)).trans (g13_0_eq k G [] σ h)
@[simp] def n11 (G : KT0 R) (v0 v1 v5 : GV) (h : Heap) := n13 k (fun x v0 v1 v5 v7 v8 h => kx x (n12 k G v0 v1 v5 v7 v8 h) (G x h)) v0 v1 v5 h
theorem n11_eq (G : KT0 R) : KC k 117 c11 σ h (Q0 G) = W3 (n11 k G) 0 1 5 σ h := (kseq (b := c12) rfl (fun σ h => n12_eq k σ h G)).trans (n13_eq k σ h (fun x v0 v1 v5 v7 v8 h => kx x (n12 k G v0 v1 v5 v7 v8 h) (G x h)))
@[simp] def n9 (G : KT0 R) (v0 v1 v5 v94 : GV) (h : Heap) := kcond v94 (n10 k G v0 v1 h) (n11 k G v0 v1 v5 h)
theorem n9_eq (G : KT0 R) : KC k 117 c9 σ h (Q0 G) = W4 (n9 k G) 0 1 5 94 σ h := (kcond_eq (a := c10) (b := c11) rfl (by rfl)).trans (congr (congrArg (kcond (σ 94)) (n10_eq k σ h G)) (n11_eq k σ h G))
noncomputable def c14 := cL c8
@[simp] def n8 (G : KT0 R) (v0 v1 v4 v5 : GV) (h : Heap) := (kbin .eql v1 v4).bind fun v97 => n9 k G v0 v1 v5 v97 h
theorem n8_eq (G : KT0 R) : KC k 117 c8 σ h (Q0 G) = W4 (n8 k G) 0 1 4 5 σ h := (kseq (a := c14) (b := c9) rfl (fun σ h => n9_eq k σ h G)).trans (by kernel_rfl)
@[simp] def n6 (G : KT0 R) (v0 v1 v4 v5 v91 : GV) (h : Heap) := kcond v91 (n7 k G h) (n8 k G v0 v1 v4 v5 h)
theorem n6_eq (G : KT0 R) : KC k 117 c6 σ h (Q0 G) = W5 (n6 k G) 0 1 4 5 91 σ h := (kcond_eq (a := c7) (b := c8) rfl (by rfl)).trans (congr (congrArg (kcond (σ 91)) (n7_eq k σ h G)) (n8_eq k σ h G))
noncomputable def c15 := cL c5
@[simp] def n5 (G : KT0 R) (v0 v1 v4 v5 : GV) (h : Heap) := (kbin .eql v1 (.int .i64 0)).bind fun v93 => n6 k G v0 v1 v4 v5 v93 h
theorem n5_eq (G : KT0 R) : KC k 117 c5 σ h (Q0 G) = W4 (n5 k G) 0 1 4 5 σ h := (kseq (a := c15) (b := c6) rfl (fun σ h => n6_eq k σ h G)).trans (by kernel_rfl)
@[simp] def n4 (G : KT0 R) (v0 v1 v4 v5 : GV) (h : Heap) := n5 k (fun x h => kb 0 x fun x => G x h) v0 v1 v4 v5 h
theorem n4_eq (G : KT0 R) : KC k 117 c4 σ h (Q0 G) = W4 (n4 k G) 0 1 4 5 σ h := (kblock_eq (a := c5) rfl).trans (n5_eq k σ h (fun x h => kb 0 x fun x => G x h))
noncomputable def c16 := cL c3
noncomputable def o16 : Array Oper := cO c16
@[simp] def g16_0 {R : Type} (k : Nat) (G : KT4 R) (v0 v1 v4 v5 : GV) (rs : List Rec) (h : Heap) := (knil v0).bind fun v30 => (kfa 1 v30).bind fun v31 => (kload1 h v31).bind fun v32 => (kbin .add v5 (.int .i64 1)).bind fun v35 => kold h fun h0 => kchk (kflat h0 [v32, v5, v35]) <| (HH fn.slices_Delete_string_string [v32, v5, v35] h).bind fun r => kr r fun v36 h => krs (rs ++ [⟨9, h0.length, h.length, ⟨kreach h0 [v32, v5, v35], kreach h0 [v32, v5, v35]⟩⟩]) fun rs => (knil v0).bind fun v38 => (kfa 2 v38).bind fun v39 => kold h fun h0 => (kload1 h v39).bind fun v40 => krs (rs ++ [⟨13, h0.length, h.length, ⟨kblk v39, []⟩⟩]) fun rs => (kbin .add v5 (.int .i64 1)).bind fun v43 => (HH fn.slices_Delete_int64_int64 [v40, v5, v43] h).bind fun r => kr r fun v44 h => (knil v0).bind fun v45 => (kfa 1 v45).bind fun v46 => (kstore 1 h v46 v36).bind fun h => (knil v0).bind fun v47 => (kfa 2 v47).bind fun v48 => (kstore 1 h v48 v44).bind fun h => bif chk [(9, 13)] rs then G .nrm v0 v1 v4 v5 h else none
theorem g16_0_eq (G : KT4 R) (rs : List Rec) (σ : GS) (h : Heap) : kgroupsD PP cfg NN HH 117 o16 [(9, 13)] [(none, [0, 1, 2, 3, 4, 5, 6, 7, 8, 9, 10, 11, 12, 13, 14, 15, 16, 17, 18, 19, 20, 21, 22, 23])] rs σ h (fun rs σ h => bif chk [(9, 13)] rs then G .nrm (σ 0) (σ 1) (σ 4) (σ 5) h else none) = g16_0 k G (σ 0) (σ 1) (σ 4) (σ 5) rs h := by kernel_rfl
@[simp] def n16 (G : KT4 R) (v0 v1 v4 v5 : GV) (h : Heap) := g16_0 k G v0 v1 v4 v5 [] h
theorem n16_eq (G : KT4 R) : KC k 117 c16 σ h (Q4 G 0 1 4 5) = W4 (n16 k G) 0 1 4 5 σ h := (kregionD_eq (id := 3) (draw := true) (ops := o16) (gs := [(none, [0, 1, 2, 3, 4, 5, 6, 7, 8, 9, 10, 11, 12, 13, 14, 15, 16, 17, 18, 19, 20, 21, 22, 23])]) (bad := [(9, 13)]) (by kernel_rfl) (by kernel_rfl) (by kernel_rfl) (by kernel_rfl) (by kernel_rfl)).trans (g16_0_eq k G [] σ h)
@[simp] def n3 (G : KT0 R) (v0 v1 v4 v5 : GV) (h : Heap) := n16 k (fun x v0 v1 v4 v5 h => kx x (n4 k G v0 v1 v4 v5 h) (G x h)) v0 v1 v4 v5 h
theorem n3_eq (G : KT0 R) : KC k 117 c3 σ h (Q0 G) = W4 (n3 k G) 0 1 4 5 σ h := (kseq (b := c4) rfl (fun σ h => n4_eq k σ h G)).trans (n16_eq k σ h (fun x v0 v1 v4 v5 h => kx x (n4 k G v0 v1 v4 v5 h) (G x h)))
noncomputable def c17 := cL c2
@[simp] def n2 (G : KT0 R) (v0 v1 v4 : GV) (h : Heap) := (kbin .sub v1 (.int .i64 1)).bind fun v25 => (gmax (.int .i64 0) v25).bind fun v26 => n3 k G v0 v1 v4 v26 h
theorem n2_eq (G : KT0 R) : KC k 117 c2 σ h (Q0 G) = W3 (n2 k G) 0 1 4 σ h := (kseq (a := c17) (b := c3) rfl (fun σ h => n3_eq k σ h G)).trans (by kernel_rfl)
noncomputable def c18 := cL c1
@[simp] def n1 (G : KT0 R) (v0 v1 v4 : GV) (h : Heap) := (knil v0).bind fun v15 => (kfa 0 v15).bind fun v16 => (kload1 h v16).bind fun v17 => (kbin .add v1 (.int .i64 1)).bind fun v20 => (HH fn.slices_Delete_impl_Server [v17, v1, v20] h).bind fun r => kr r fun v21 h => (knil v0).bind fun v22 => (kfa 0 v22).bind fun v23 => (kstore 1 h v23 v21).bind fun h => n2 k G v0 v1 v4 h
theorem n1_eq (G : KT0 R) : KC k 117 c1 σ h (Q0 G) = W3 (n1 k G) 0 1 4 σ h := (kseq (a := c18) (b := c2) rfl (fun σ h => n2_eq k σ h G)).trans (by kernel_rfl)
noncomputable def c19 := cL c0
@[simp] def n0 (G : KT0 R) (v0 v1 : GV) (h : Heap) := (knil v0).bind fun v10 => (kloadA 3 h v10).bind fun v11 => (kN NN fn.impl_Chain_last [v11] h).bind fun v12 => n1 k G v0 v1 v12 h
theorem n0_eq (G : KT0 R) : KC k 117 c0 σ h (Q0 G) = W2 (n0 k G) 0 1 σ h := (kseq (a := c19) (b := c1) rfl (fun σ h => n1_eq k σ h G)).trans (by kernel_rfl)
def run {R : Type} (k : Nat) (a0 a1 : GV) (h : Heap) (fin : GV → Heap → Option R) : Option R := n0 k (fun x h => kend x (fin (.tup []) h)) a0 a1 h
theorem gives {k : Nat} {a0 a1 : GV} {h : Heap} {r : GV × Heap} (e : run k a0 a1 h finH = some r) : HH fn.impl_Chain_fall [a0, a1] h = some r := kω_of (((kfun_eq (nt := 117) (c := c0) (show PP.funcs[fn.impl_Chain_fall]? = some Try.f106 by kernel_rfl) (by kernel_rfl) (by kernel_rfl) (fun x σ h => by cases x <;> kernel_rfl)).trans (n0_eq k _ h _)).trans e)
end S.impl_Chain_fall
namespace S.impl_Chain_tell
noncomputable def c0 := bodyOf Try.f124
noncomputable def c1 := cR c0
noncomputable def c2 := cL c1
noncomputable def o2 : Array Oper := cO c2
@[simp] def g2_0 {R : Type} (k : Nat) (G : KT0 R) (v0 v1 : GV) (rs : List Rec) (h : Heap) := (knil v0).bind fun v7 => (kfa 2 v7).bind fun v8 => kold h fun h0 => (kload1 h v8).bind fun v9 => krs (rs ++ [⟨3, h0.length, h.length, ⟨kblk v8, []⟩⟩]) fun rs => (kbin .sub v1 (.int .i64 1)).bind fun v11 => (knil v0).bind fun v13 => (kfa 2 v13).bind fun v14 => (kload1 h v14).bind fun v15 => (kbin .sub v1 (.int .i64 1)).bind fun v17 => (kia 1 v15 v17).bind fun v18 => (kload1 h v18).bind fun v19 => (knil v0).bind fun v21 => (kfa 0 v21).bind fun v22 => (kload1 h v22).bind fun v23 => (kia 2 v23 v1).bind fun v25 => (kfa 1 v25).bind fun v26 => (kload1 h v26).bind fun v27 => (gfill (fun i => some (i * 1, 1)) (zeros [(.int .i64 0)] 1) [(0, v27)]).bind fun c => kbs 1 1 c h fun v28 h => kold h fun h0 => (kapp [(.int .i64 0)] 1 8 v19 v28 h).bind fun r => kr r fun v29 h => krs (rs ++ [⟨23, h0.length, h.length, ⟨kblk v19 ++ kblk v28, kblk v19⟩⟩]) fun rs => (kia 1 v9 v11).bind fun v30 => (kstore 1 h v30 v29).bind fun h => bif chk [(3, 23)] rs then G .nrm h else none
theorem g2_0_eq (G : KT0 R) (rs : List Rec) (σ : GS) (h : Heap) : kgroupsD PP cfg NN HH 31 o2 [(3, 23)] [(none, [0, 1, 2, 3, 4, 5, 6, 7, 8, 9, 10, 11, 12, 13, 14, 15, 16, 17, 18, 19, 20, 21, 22, 23, 24, 25])] rs σ h (fun rs σ h => bif chk [(3, 23)] rs then G .nrm h else none) = g2_0 k G (σ 0) (σ 1) rs h := by kernel_rfl
@[simp] def n2 (G : KT0 R) (v0 v1 : GV) (h : Heap) := g2_0 k G v0 v1 [] h
theorem n2_eq (G : KT0 R) : KC k 31 c2 σ h (Q0 G) = W2 (n2 k G) 0 1 σ h := (kregionD_eq (id := 1) (draw := true) (ops := o2) (gs := [(none, [0, 1, 2, 3, 4, 5, 6, 7, 8, 9, 10, 11, 12, 13, 14, 15, 16, 17, 18, 19, 20, 21, 22, 23, 24, 25])]) (bad := [(3, 23)]) (by kernel_rfl) (by kernel_rfl) (by kernel_rfl) (by kernel_rfl) (by kernel_rfl)).trans (g2_0_eq k G [] σ h)
noncomputable def c3 := cR c1
@[simp] def n3 {R : Type} (k : Nat) (G : KT0 R) (h : Heap) := G .nrm h
theorem n3_eq (G : KT0 R) : KC k 31 c3 σ h (Q0 G) = n3 k G h := by kernel_rfl
@[simp] def n1 (G : KT0 R) (v0 v1 v5 : GV) (h : Heap) := kcond v5 (n2 k G v0 v1 h) (n3 k G h)
theorem n1_eq (G : KT0 R) : KC k 31 c1 σ h (Q0 G) = W3 (n1 k G) 0 1 5 σ h := (kcond_eq (a := c2) (b := c3) rfl (by rfl)).trans (congr (congrArg (kcond (σ 5)) (n2_eq k σ h G)) (n3_eq k σ h G))
noncomputable def c4 := cL c0
@[simp] def n0 (G : KT0 R) (v0 v1 : GV) (h : Heap) := (kbin .gtr v1 (.int .i64 0)).bind fun v5 => n1 k G v0 v1 v5 h
theorem n0_eq (G : KT0 R) : KC k 31 c0 σ h (Q0 G) = W2 (n0 k G) 0 1 σ h := (kseq (a := c4) (b := c1) rfl (fun σ h => n1_eq k σ h G)).trans (by kernel_rfl)
def run {R : Type} (k : Nat) (a0 a1 : GV) (h : Heap) (fin : GV → Heap → Option R) : Option R := n0 k (fun x h => kend x (fin (.tup []) h)) a0 a1 h
theorem gives {k : Nat} {a0 a1 : GV} {h : Heap} {r : GV × Heap} (e : run k a0 a1 h finH = some r) : HH fn.impl_Chain_tell [a0, a1] h = some r := kω_of (((kfun_eq (nt := 31) (c := c0) (show PP.funcs[fn.impl_Chain_tell]? = some Try.f124 by kernel_rfl) (by kernel_rfl) (by kernel_rfl) (fun x σ h => by cases x <;> kernel_rfl)).trans (n0_eq k _ h _)).trans e)
end S.impl_Chain_tell
namespace S.slices_Delete_impl_Server
noncomputable def c0 := bodyOf Try.f194
@[simp] def n0 {R : Type} (k : Nat) (G : KT1 R) (v0 v1 v2 : GV) (h : Heap) := (klen v0).bind fun v12 => (ksl 2 v0 (some v1) (some v2) (some v12)).bind fun v13 => (kbin .eql v1 v2).bind fun v16 => kcond v16 (G .ret v0 h) ((klen v0).bind fun v19 => (ksl 2 v0 none (some v1) none).bind fun v22 => (ksl 2 v0 (some v2) none none).bind fun v25 => (kapp [.nils, (.int .i64 0)] 2 32 v22 v25 h).bind fun r => kr r fun v26 h => (klen v26).bind fun v29 => (ksl 2 v26 (some v29) (some v19) none).bind fun v31 => (kclear [.nils, (.int .i64 0)] v31 h).bind fun r => kr r fun _ h => G .ret v26 h)
theorem n0_eq (G : KT1 R) : KC k 33 c0 σ h (Q1 G 6) = W3 (n0 k G) 0 1 2 σ h := by kernel_rfl
def run {R : Type} (k : Nat) (a0 a1 a2 : GV) (h : Heap) (fin : GV → Heap → Option R) : Option R := n0 k (fun x v6 h => kend x (fin v6 h)) a0 a1 a2 h
theorem gives {k : Nat} {a0 a1 a2 : GV} {h : Heap} {r : GV × Heap} (e : run k a0 a1 a2 h finH = some r) : HH fn.slices_Delete_impl_Server [a0, a1, a2] h = some r := kω_of (((kfun_eq (nt := 33) (c := c0) (show PP.funcs[fn.slices_Delete_impl_Server]? = some Try.f194 by kernel_rfl) (by kernel_rfl) (by kernel_rfl) (fun x σ h => by cases x <;> kernel_rfl)).trans (n0_eq k _ h _)).trans e)
end S.slices_Delete_impl_Server
namespace S.slices_Delete_string_string
noncomputable def c0 := bodyOf Try.f195
@[simp] def n0 {R : Type} (k : Nat) (G : KT1 R) (v0 v1 v2 : GV) (h : Heap) := (klen v0).bind fun v12 => (ksl 1 v0 (some v1) (some v2) (some v12)).bind fun v13 => (kbin .eql v1 v2).bind fun v16 => kcond v16 (G .ret v0 h) ((klen v0).bind fun v19 => (ksl 1 v0 none (some v1) none).bind fun v22 => (ksl 1 v0 (some v2) none none).bind fun v25 => (kapp [.nils] 1 24 v22 v25 h).bind fun r => kr r fun v26 h => (klen v26).bind fun v29 => (ksl 1 v26 (some v29) (some v19) none).bind fun v31 => (kclear [.nils] v31 h).bind fun r => kr r fun _ h => G .ret v26 h)
theorem n0_eq (G : KT1 R) : KC k 33 c0 σ h (Q1 G 6) = W3 (n0 k G) 0 1 2 σ h := by kernel_rfl
def run {R : Type} (k : Nat) (a0 a1 a2 : GV) (h : Heap) (fin : GV → Heap → Option R) : Option R := n0 k (fun x v6 h => kend x (fin v6 h)) a0 a1 a2 h
theorem gives {k : Nat} {a0 a1 a2 : GV} {h : Heap} {r : GV × Heap} (e : run k a0 a1 a2 h finH = some r) : HH fn.slices_Delete_string_string [a0, a1, a2] h = some r := kω_of (((kfun_eq (nt := 33) (c := c0) (show PP.funcs[fn.slices_Delete_string_string]? = some Try.f195 by kernel_rfl) (by kernel_rfl) (by kernel_rfl) (fun x σ h => by cases x <;> kernel_rfl)).trans (n0_eq k _ h _)).trans e)
end S.slices_Delete_string_string
namespace S.slices_Delete_int64_int64
noncomputable def c0 := bodyOf Try.f196
@[simp] def n0 {R : Type} (k : Nat) (G : KT1 R) (v0 v1 v2 : GV) (h : Heap) := (klen v0).bind fun v12 => (ksl 1 v0 (some v1) (some v2) (some v12)).bind fun v13 => (kbin .eql v1 v2).bind fun v16 => kcond v16 (G .ret v0 h) ((klen v0).bind fun v19 => (ksl 1 v0 none (some v1) none).bind fun v22 => (ksl 1 v0 (some v2) none none).bind fun v25 => (kapp [.nils] 1 24 v22 v25 h).bind fun r => kr r fun v26 h => (klen v26).bind fun v29 => (ksl 1 v26 (some v29) (some v19) none).bind fun v31 => (kclear [.nils] v31 h).bind fun r => kr r fun _ h => G .ret v26 h)
theorem n0_eq (G : KT1 R) : KC k 33 c0 σ h (Q1 G 6) = W3 (n0 k G) 0 1 2 σ h := by kernel_rfl
def run {R : Type} (k : Nat) (a0 a1 a2 : GV) (h : Heap) (fin : GV → Heap → Option R) : Option R := n0 k (fun x v6 h => kend x (fin v6 h)) a0 a1 a2 h
theorem gives {k : Nat} {a0 a1 a2 : GV} {h : Heap} {r : GV × Heap} (e : run k a0 a1 a2 h finH = some r) : HH fn.slices_Delete_int64_int64 [a0, a1, a2] h = some r := kω_of (((kfun_eq (nt := 33) (c := c0) (show PP.funcs[fn.slices_Delete_int64_int64]? = some Try.f196 by kernel_rfl) (by kernel_rfl) (by kernel_rfl) (fun x σ h => by cases x <;> kernel_rfl)).trans (n0_eq k _ h _)).trans e)
end S.slices_Delete_int64_int64
end
end Go.Proofs.Ytlbnioapepelnaa.G

namespace Go.Proofs.Ytlbnioapepelnaa.G
open Go.RowKit
theorem del_facts {z : List GV} {es bytes b i r : Nat} {C : List GV} {H : Heap} (hz : z.length = es) (hzc : z.all GV.isCell = true) (h0 : 0 < es) (hb : bytes ≤ 1024) (hB : H[b]? = some C) (hC : C.length = (i + 1 + r) * es) (hCc : C.all GV.isCell = true) (hN : i + 1 + r ≤ 1000) : ∃ H1,
    ksl es (.sl b 0 (i + 1 + r) (i + 1 + r) es) (some (.int .i64 (i : Int))) (some (.int .i64 ((i + 1 : Nat) : Int))) (some (.int .i64 ((i + 1 + r : Nat) : Int))) = some (.sl b (i * es) 1 (1 + r) es) ∧
    ksl es (.sl b 0 (i + 1 + r) (i + 1 + r) es) none (some (.int .i64 (i : Int))) none = some (.sl b 0 i (i + 1 + r) es) ∧
    ksl es (.sl b 0 (i + 1 + r) (i + 1 + r) es) (some (.int .i64 ((i + 1 : Nat) : Int))) none none = some (.sl b ((i + 1) * es) r r es) ∧
    kapp z es bytes (.sl b 0 i (i + 1 + r) es) (.sl b ((i + 1) * es) r r es) H = some (.sl b 0 (i + r) (i + 1 + r) es, H1) ∧
    ksl es (.sl b 0 (i + r) (i + 1 + r) es) (some (.int .i64 ((i + r : Nat) : Int))) (some (.int .i64 ((i + 1 + r : Nat) : Int))) none = some (.sl b ((i + r) * es) 1 1 es) ∧
    kclear z (.sl b ((i + r) * es) 1 1 es) H1 = some (.un, H.set b (C.take (i * es) ++ C.drop ((i + 1) * es) ++ z)) := by
  obtain ⟨A, hA⟩ : ∃ A, i * es = A := ⟨_, rfl⟩
  obtain ⟨L, hL⟩ : ∃ L, r * es = L := ⟨_, rfl⟩
  have e1 : (i + 1) * es = A + es := by rw [Nat.add_mul, Nat.one_mul, hA]
  have e2 : (i + 1 + r) * es = A + es + L := by rw [Nat.add_mul, e1, hL]
  have e3 : (i + r) * es = A + L := by rw [Nat.add_mul, hA, hL]
  have hr : r * bytes ≤ 1000 * 1024 := Nat.mul_le_mul (by omega) hb
  have hr2 : (i + r) * bytes ≤ 1000 * 1024 := Nat.mul_le_mul (by omega) hb
  rw [e2] at hC
  have hbl := (List.getElem?_eq_some_iff.1 hB).1
  have hD : (C.drop (A + es)).length = L := by rw [List.length_drop]; omega
  have s1 : splice C A (C.drop (A + es)) = C.take A ++ C.drop (A + es) ++ C.drop (A + L) := by
    unfold splice
    rw [hD]
  have hS : (C.take A ++ C.drop (A + es) ++ C.drop (A + L)).length = A + es + L := by
    rw [List.length_append, List.length_append, List.length_take, hD, List.length_drop]; omega
  have s2 : splice (C.take A ++ C.drop (A + es) ++ C.drop (A + L)) (A + L) z = C.take A ++ C.drop (A + es) ++ z := by
    have hl : (C.take A ++ C.drop (A + es)).length = A + L := by rw [List.length_append, List.length_take, hD]; omega
    have hd : (C.take A ++ C.drop (A + es) ++ C.drop (A + L)).drop (A + L + z.length) = [] := List.drop_of_length_le (by rw [hS, hz]; omega)
    unfold splice
    rw [List.take_left' hl, hd, List.append_nil]
  have t1 : (((i + 1 : Nat) : Int)).toNat = i + 1 := Int.toNat_natCast _
  have t2 : (((i + r : Nat) : Int)).toNat = i + r := Int.toNat_natCast _
  have t3 : (((i + 1 + r : Nat) : Int)).toNat = i + 1 + r := Int.toNat_natCast _
  have p1 : (0 : Int) ≤ ((i + 1 : Nat) : Int) := by omega
  have p2 : (0 : Int) ≤ ((i + r : Nat) : Int) := by omega
  have a1 : (i : Int) ≤ ((i + 1 : Nat) : Int) := by omega
  have a2 : ((i + 1 : Nat) : Int) ≤ ((i + 1 + r : Nat) : Int) := by omega
  have a3 : (i : Int) ≤ ((i + 1 + r : Nat) : Int) := by omega
  have a4 : ((i + r : Nat) : Int) ≤ ((i + 1 + r : Nat) : Int) := by omega
  have u1 : i + 1 - i = 1 := by omega
  have u2 : i + 1 + r - i = 1 + r := by omega
  have u3 : i + 1 + r - (i + 1) = r := by omega
  have u4 : i + 1 + r - (i + r) = 1 := by omega
  refine ⟨H.set b (C.take A ++ C.drop (A + es) ++ C.drop (A + L)), ?_, ?_, ?_, ?_, ?_, ?_⟩
  · simp [ksl, kslice, gslice, gopt, gint, -Int.natCast_add, a1, a2, a3, t1, u1, u2, hA]
  · simp [ksl, kslice, gslice, gopt, gint, -Int.natCast_add, a1, a2, a3]
  · simp [ksl, kslice, gslice, gopt, gint, -Int.natCast_add, a1, a2, a3, t1, p1, u3]
  · have hg : gcells H es (.sl b ((i + 1) * es) r r es) = some (r, C.drop (A + es), [b]) := by
      unfold gcells
      simp only [Option.bind_eq_bind, cellsAt_if, hB, Option.bind_some, e1, hL, hC, if_true]
      rw [if_pos ⟨trivial, Nat.le_refl _⟩, List.take_of_length_le (by omega)]
    have hca : (C.drop (A + es)).all GV.isCell = true := by
      rw [List.all_eq_true] at hCc ⊢
      exact fun x hx => hCc x (List.mem_of_mem_drop hx)
    unfold kapp
    rw [hg]
    simp only [Option.bind_some]
    rw [if_pos ⟨hca, hz, by simp only [maxLen]; omega, by simp only [roomMax]; omega⟩]
    simp only [Nat.zero_add, cellsAt_if, hB, Option.bind_some, e2, hC, if_true]
    rw [if_pos ⟨trivial, by omega, by simp only [roomMax]; omega, by simp only [maxLen]; omega⟩, if_pos (by omega), hA, s1]
  · simp [ksl, kslice, gslice, gopt, gint, -Int.natCast_add, a4, t2, t3, p2, u4]
  · have hB1 : (H.set b (C.take A ++ C.drop (A + es) ++ C.drop (A + L)))[b]? = some (C.take A ++ C.drop (A + es) ++ C.drop (A + L)) := List.getElem?_set_self hbl
    have hz1 : zeros z 1 = z := List.append_nil z
    unfold kclear
    simp only [Nat.one_mul, cellsAt_if, hB1, Option.bind_some, e3]
    rw [if_pos (by rw [hS]; omega)]
    simp only [Option.bind_some]
    rw [if_pos ⟨hz, Nat.le_refl _, hzc⟩, hz1, s2, List.set_set, e1, hA]
theorem delete_D {b i r : Nat} {C : List GV} {H : Heap} (hB : H[b]? = some C) (hC : C.length = (i + 1 + r) * 1) (hCc : C.all GV.isCell = true) (hN : i + 1 + r ≤ 1000) :
    HH fn.slices_Delete_string_string [.sl b 0 (i + 1 + r) (i + 1 + r) 1, .int .i64 (i : Int), .int .i64 ((i + 1 : Nat) : Int)] H = some (.sl b 0 (i + r) (i + 1 + r) 1, H.set b (C.take (i * 1) ++ C.drop ((i + 1) * 1) ++ [.nils])) := by
  obtain ⟨H1, a1, a2, a3, a4, a5, a6⟩ := del_facts (z := [.nils]) (es := 1) (bytes := 24) rfl rfl (by omega) (by omega) hB hC hCc hN
  obtain ⟨H2, hH2⟩ : ∃ H2, H.set b (C.take (i * 1) ++ C.drop ((i + 1) * 1) ++ [.nils]) = H2 := ⟨_, rfl⟩
  rw [hH2] at a6 ⊢
  have l1 : klen (.sl b 0 (i + 1 + r) (i + 1 + r) 1) = some (.int .i64 ((i + 1 + r : Nat) : Int)) := rfl
  have l2 : klen (.sl b 0 (i + r) (i + 1 + r) 1) = some (.int .i64 ((i + r : Nat) : Int)) := rfl
  have g1 : kbin .eql (.int .i64 (i : Int)) (.int .i64 ((i + 1 : Nat) : Int)) = some (.bool false) := by rw [kbin_eql, decide_eq_false (by omega)]
  try simp only [Nat.mul_one] at a1 a3 a4 a5 a6
  apply S.slices_Delete_string_string.gives (k := 0)
  simp [S.slices_Delete_string_string.run, l1, l2, g1, a1, a2, a3, a4, a5, a6, -klen_sl, -kbin_eql, -Int.natCast_add]
theorem delete_U {b i r : Nat} {C : List GV} {H : Heap} (hB : H[b]? = some C) (hC : C.length = (i + 1 + r) * 1) (hCc : C.all GV.isCell = true) (hN : i + 1 + r ≤ 1000) :
    HH fn.slices_Delete_int64_int64 [.sl b 0 (i + 1 + r) (i + 1 + r) 1, .int .i64 (i : Int), .int .i64 ((i + 1 : Nat) : Int)] H = some (.sl b 0 (i + r) (i + 1 + r) 1, H.set b (C.take (i * 1) ++ C.drop ((i + 1) * 1) ++ [.nils])) := by
  obtain ⟨H1, a1, a2, a3, a4, a5, a6⟩ := del_facts (z := [.nils]) (es := 1) (bytes := 24) rfl rfl (by omega) (by omega) hB hC hCc hN
  obtain ⟨H2, hH2⟩ : ∃ H2, H.set b (C.take (i * 1) ++ C.drop ((i + 1) * 1) ++ [.nils]) = H2 := ⟨_, rfl⟩
  rw [hH2] at a6 ⊢
  have l1 : klen (.sl b 0 (i + 1 + r) (i + 1 + r) 1) = some (.int .i64 ((i + 1 + r : Nat) : Int)) := rfl
  have l2 : klen (.sl b 0 (i + r) (i + 1 + r) 1) = some (.int .i64 ((i + r : Nat) : Int)) := rfl
  have g1 : kbin .eql (.int .i64 (i : Int)) (.int .i64 ((i + 1 : Nat) : Int)) = some (.bool false) := by rw [kbin_eql, decide_eq_false (by omega)]
  try simp only [Nat.mul_one] at a1 a3 a4 a5 a6
  apply S.slices_Delete_int64_int64.gives (k := 0)
  simp [S.slices_Delete_int64_int64.run, l1, l2, g1, a1, a2, a3, a4, a5, a6, -klen_sl, -kbin_eql, -Int.natCast_add]
theorem delete_S {b i r : Nat} {C : List GV} {H : Heap} (hB : H[b]? = some C) (hC : C.length = (i + 1 + r) * 2) (hCc : C.all GV.isCell = true) (hN : i + 1 + r ≤ 1000) :
    HH fn.slices_Delete_impl_Server [.sl b 0 (i + 1 + r) (i + 1 + r) 2, .int .i64 (i : Int), .int .i64 ((i + 1 : Nat) : Int)] H = some (.sl b 0 (i + r) (i + 1 + r) 2, H.set b (C.take (i * 2) ++ C.drop ((i + 1) * 2) ++ [.nils, .int .i64 0])) := by
  obtain ⟨H1, a1, a2, a3, a4, a5, a6⟩ := del_facts (z := [.nils, .int .i64 0]) (es := 2) (bytes := 32) rfl rfl (by omega) (by omega) hB hC hCc hN
  obtain ⟨H2, hH2⟩ : ∃ H2, H.set b (C.take (i * 2) ++ C.drop ((i + 1) * 2) ++ [.nils, .int .i64 0]) = H2 := ⟨_, rfl⟩
  rw [hH2] at a6 ⊢
  have l1 : klen (.sl b 0 (i + 1 + r) (i + 1 + r) 2) = some (.int .i64 ((i + 1 + r : Nat) : Int)) := rfl
  have l2 : klen (.sl b 0 (i + r) (i + 1 + r) 2) = some (.int .i64 ((i + r : Nat) : Int)) := rfl
  have g1 : kbin .eql (.int .i64 (i : Int)) (.int .i64 ((i + 1 : Nat) : Int)) = some (.bool false) := by rw [kbin_eql, decide_eq_false (by omega)]
  try simp only [Nat.mul_one] at a1 a3 a4 a5 a6
  apply S.slices_Delete_impl_Server.gives (k := 0)
  simp [S.slices_Delete_impl_Server.run, l1, l2, g1, a1, a2, a3, a4, a5, a6, -klen_sl, -kbin_eql, -Int.natCast_add]
end Go.Proofs.Ytlbnioapepelnaa.G

namespace Go.Proofs.Ytlbnioapepelnaa.G
open Go.RowKit
def RRm {α : Type} (es : Nat) (E : Rel α) : Rel (List α) := fun h c xs R => RSl es E h c xs R ∨ ∃ b css Rs rest m, c = [.sl b 0 xs.length (xs.length + m) es] ∧ h[b]? = some (css.flatten ++ rest) ∧ rest.length = m * es ∧ All3 (E h) css xs Rs ∧ R = b :: Rs.flatten
theorem RRm.ownTo {α : Type} {es d : Nat} {mk : α → List GV} {E E' : Rel α} (hE : Good es d mk E) (hO : OwnTo d E E') : OwnTo (d + 1) (RRm es E) (RSl es E') := by
  intro h c xs R he D b
  rcases he with he | ⟨b0, css, Rs, rest, m, rfl, hb, hm, ha, rfl⟩
  · exact RSl.ownTo hE hO _ _ _ _ he D b
  · obtain ⟨css', vis, bl, Rs', a1, a2, a3, a4⟩ := All3.ownTo hO D ha (b + 1)
    obtain ⟨fl, _⟩ := All3.flen (fun h => hE.len h) ha
    have hl : (css.flatten ++ rest).length = (xs.length + m) * es := by rw [List.length_append, fl, hm, Nat.add_mul]
    have ht : (css.flatten ++ rest).take (xs.length * es) = css.flatten := List.take_left' fl
    have e : own (D + (d + 1)) h b (.sl b0 0 xs.length (xs.length + m) es) = some (.sl b 0 xs.length xs.length es, (b0, 0, 0 + (xs.length + m) * es) :: vis, css'.flatten :: bl) := by
      rw [← Nat.add_assoc]
      simp only [own, cellsAt_if, hb, Nat.zero_add, hl, if_true, Option.bind_some, List.drop_zero]
      rw [if_pos (by omega), ht, a1]
      rfl
    refine ⟨[.sl b 0 xs.length xs.length es], (b0, 0, 0 + (xs.length + m) * es) :: vis, css'.flatten :: bl, ?_, ?_, fun H T hH => Or.inr ⟨b, css', Rs', rfl, ?_, ?_, ?_⟩⟩
    · unfold ownL
      rw [e]
      simp [ownL]
    · rw [List.map_cons, a2]
    · rw [List.append_assoc, List.getElem?_append_right (by omega), hH, Nat.sub_self]; rfl
    · have := a4 (H ++ [css'.flatten]) T (by rw [List.length_append, hH]; rfl)
      simpa only [List.append_assoc, List.cons_append, List.nil_append] using this
    · rw [a3, List.length_cons, List.range'_succ]
theorem RRm.frame {α : Type} {es d : Nat} {mk : α → List GV} {E : Rel α} (hE : Good es d mk E) {h h' : Heap} {c : List GV} {xs : List α} {R : List Nat} (he : RRm es E h c xs R) (hf : ∀ i ∈ R, h'[i]? = h[i]?) : RRm es E h' c xs R := by
  rcases he with he | ⟨b, css, Rs, rest, m, rfl, hb, hm, ha, rfl⟩
  · exact Or.inl ((RSl.good hE).frame he hf)
  · exact Or.inr ⟨b, css, Rs, rest, m, rfl, (hf b (List.mem_cons_self ..)).trans hb, hm, All3.frame (fun a b => hE.frame a b) ha fun i hi => hf i (List.mem_cons_of_mem _ hi), rfl⟩
theorem RRm.mem {α : Type} {es d : Nat} {mk : α → List GV} {E : Rel α} (hE : Good es d mk E) {h : Heap} {c : List GV} {xs : List α} {R : List Nat} (he : RRm es E h c xs R) : ∀ i ∈ R, i < h.length := by
  rcases he with he | ⟨b, css, Rs, rest, m, rfl, hb, hm, ha, rfl⟩
  · exact (RSl.good hE).mem he
  · intro i hi
    rcases List.mem_cons.1 hi with rfl | hi
    · exact (List.getElem?_eq_some_iff.1 hb).1
    · exact All3.mem (fun a => hE.mem a) ha i hi
abbrev rChainR : Rel ChainT := RSeq (RRm 2 rServer) (RSeq (RRm 1 rStringS) (RRm 1 rInt64S))
theorem ownChainR : OwnTo 3 rChainR rChain := RSeq.ownTo (OwnTo.mono (RRm.ownTo goodServer (Good.ownTo goodServer)) (by omega)) (RSeq.ownTo (OwnTo.mono (RRm.ownTo goodStringS (Good.ownTo goodStringS)) (by omega)) (OwnTo.mono (RRm.ownTo goodInt64S (Good.ownTo goodInt64S)) (by omega)))
theorem finO_chainR {h : Heap} {c : List GV} {a : ChainT} {R : List Nat} {t : Bool} (he : rChainR h c a R) (nd : R.Nodup) (b : Nat) : ∃ c' bl, finO b (.tup [.agg c, .bool t]) h = some (.tup [.agg c', .bool t], bl) ∧ ∀ H T, H.length = b → rChain (H ++ bl ++ T) c' a (List.range' b bl.length) := by
  obtain ⟨c', vis, bl, a1, a2, a3⟩ := ownChainR _ _ _ _ he 4 b
  refine ⟨c', bl, ?_, a3⟩
  unfold finO ownOk
  have e : own 9 h b (.tup [.agg c, .bool t]) = some (.tup [.agg c', .bool t], vis, bl) := by
    show (ownL (own 8 h) b [.agg c, .bool t]).bind _ = _
    have e1 : own 8 h b (.agg c) = some (.agg c', vis, bl) := by
      show (ownL (own 7 h) b c).bind _ = _
      rw [a1]; rfl
    unfold ownL
    rw [e1]
    simp [ownL, own]
  simp only [e, Option.bind_some, a2, nodupB_of nd, cond_true]
end Go.Proofs.Ytlbnioapepelnaa.G

namespace Go.Proofs.Ytlbnioapepelnaa.G
open Go.RowKit
abbrev sv (xs : CServers) (j : Nat) : List ByteArray × Int := xs[j]?.getD ([], 0)
def fallLast (ys : CServers) (ds : List (List ByteArray)) (us : List (List Int)) (j : Nat) : ChainT :=
  (ys.set (j - 1) ((sv ys (j - 1)).1, ((sv ys (j - 1)).1.length : Int)), ds, if 1 < j then us.set (j - 2) (us[j - 2]?.getD [] ++ [((sv ys (j - 1)).1.length : Int)]) else us)
def fallMid (ys : CServers) (ds : List (List ByteArray)) (us : List (List Int)) (j : Nat) (d : List ByteArray) : ChainT :=
  (ys, ds.set (j - 1) d, us.set (j - 1) (if (sv ys (j - 1)).2 < (sv ys j).2 then [(sv ys j).2] else []))
def fallC (xs : CServers) (ds : List (List ByteArray)) (us : List (List Int)) (j : Nat) : ChainT :=
  if j = 0 then (xs.eraseIdx j, ds.eraseIdx (j - 1), us.eraseIdx (j - 1))
  else if j + 1 = xs.length then fallLast (xs.eraseIdx j) (ds.eraseIdx (j - 1)) (us.eraseIdx (j - 1)) j
  else fallMid (xs.eraseIdx j) (ds.eraseIdx (j - 1)) (us.eraseIdx (j - 1)) j ((sv (xs.eraseIdx j) (j - 1)).1.drop (sv (xs.eraseIdx j) j).1.length)
def fallS (xs : CServers) (ds : List (List ByteArray)) (us : List (List Int)) (j : Nat) : ChainT :=
  if j = 0 then (xs.eraseIdx j, ds.eraseIdx (j - 1), us.eraseIdx (j - 1))
  else if j + 1 = xs.length then fallLast (xs.eraseIdx j) (ds.eraseIdx (j - 1)) (us.eraseIdx (j - 1)) j
  else fallMid (xs.eraseIdx j) (ds.eraseIdx (j - 1)) (us.eraseIdx (j - 1)) j (ds[j]?.getD [] ++ ds[j - 1]?.getD [])
theorem fall_eq {xs : CServers} {ds : List (List ByteArray)} {us : List (List Int)} (h : ChainP xs ds us) {j : Nat} (hj : j < xs.length) : fallC xs ds us j = fallS xs ds us j := by
  unfold fallC fallS
  by_cases h0 : j = 0
  · rw [if_pos h0, if_pos h0]
  rw [if_neg h0, if_neg h0]
  by_cases h1 : j + 1 = xs.length
  · rw [if_pos h1, if_pos h1]
  rw [if_neg h1, if_neg h1]
  have e1 : sv (xs.eraseIdx j) (j - 1) = sv xs (j - 1) := by
    unfold sv
    rw [List.getElem?_eraseIdx, if_pos (by omega)]
  have e2 : sv (xs.eraseIdx j) j = sv xs (j + 1) := by
    unfold sv
    rw [List.getElem?_eraseIdx, if_neg (by omega)]
  obtain ⟨_, _, _, _, hs, _⟩ := h
  have s1 := (hs (j - 1) (by omega) (by omega)).2.1
  have s2 := (hs j (by omega) (by omega)).2.1
  rw [show j - 1 + 1 = j by omega] at s1
  congr 1
  rw [e1, e2]
  show ((xs[j - 1]?.getD ([], 0)).1).drop _ = _
  rw [s1, s2, List.append_assoc]
  exact List.drop_left' rfl
def fallM (a : ChainT) (i : Int) : ChainT × Bool := if 2 ≤ a.1.length ∧ 0 ≤ i ∧ i < a.1.length then (fallC a.1 a.2.1 a.2.2 i.toNat, true) else (a, false)
theorem fallM_false {a : ChainT} {i : Int} (h : (fallM a i).2 = false) : (fallM a i).1 = a := by
  unfold fallM at h ⊢
  split
  · rename_i h1
    rw [if_pos h1] at h
    cases h
  · rfl
end Go.Proofs.Ytlbnioapepelnaa.G

namespace Go.Proofs.Ytlbnioapepelnaa.G
open Go.RowKit
theorem All3.erase {α : Type} {E : List GV → α → List Nat → Prop} {css : List (List GV)} {xs : List α} {Rs : List (List Nat)} (h : All3 E css xs Rs) : ∀ j, All3 E (css.eraseIdx j) (xs.eraseIdx j) (Rs.eraseIdx j) := by
  induction h with
  | nil => intro j; exact .nil
  | cons a t ih =>
    intro j
    cases j with
    | zero => exact t
    | succ j => exact .cons a (ih j)
theorem flat_erase {es : Nat} {css : List (List GV)} (h : ∀ c ∈ css, c.length = es) : ∀ j, j < css.length → (css.eraseIdx j).flatten = css.flatten.take (j * es) ++ css.flatten.drop ((j + 1) * es) := by
  induction css with
  | nil => intro j hj; cases hj
  | cons c css ih =>
    intro j hj
    have hc := h c (by simp)
    cases j with
    | zero =>
      rw [List.eraseIdx_cons_zero, Nat.zero_mul, List.take_zero, List.nil_append, Nat.zero_add, Nat.one_mul, List.flatten_cons]
      exact (List.drop_left' hc).symm
    | succ j =>
      have e1 : (j + 1) * es = c.length + j * es := by rw [hc, Nat.add_mul]; omega
      have e2 : (j + 1 + 1) * es = c.length + (j + 1) * es := by rw [hc, Nat.add_mul (j + 1)]; omega
      rw [List.eraseIdx_cons_succ, List.flatten_cons, List.flatten_cons, ih (fun c hc => h c (by simp [hc])) j (by simpa using hj), e2, List.drop_length_add_append]
      rw [show (c ++ css.flatten).take ((j + 1) * es) = c ++ css.flatten.take (j * es) from by rw [e1, List.take_length_add_append]]
      rw [List.append_assoc]
theorem flat_sub {l m : List (List Nat)} (h : l.Sublist m) : l.flatten.Sublist m.flatten := by
  induction h with
  | slnil => exact List.Sublist.slnil
  | cons a _ ih => rw [List.flatten_cons]; exact ih.trans (List.sublist_append_right ..)
  | cons_cons a _ ih => rw [List.flatten_cons, List.flatten_cons]; exact List.Sublist.append (List.Sublist.refl a) ih
theorem All3.cellsG {α : Type} {es d : Nat} {mk : α → List GV} {E : Rel α} (hE : Good es d mk E) {H : Heap} {css : List (List GV)} {xs : List α} {Rs : List (List Nat)} (ha : All3 (E H) css xs Rs) : css.flatten.all GV.isCell = true := by
  induction ha with
  | nil => rfl
  | cons a _ ih => rw [List.flatten_cons, List.all_append, hE.cell a, ih]; rfl
theorem RSl.del {α : Type} {es d : Nat} {mk : α → List GV} {E : Rel α} (hE : Good es d mk E) {H : Heap} {v : GV} {xs : List α} {R : List Nat} (he : RSl es E H [v] xs R) (nd : R.Nodup) {j : Nat} (hj : j < xs.length) {z : List GV} (hz : z.length = es) :
    ∃ b C r R', v = .sl b 0 (j + 1 + r) (j + 1 + r) es ∧ H[b]? = some C ∧ C.length = (j + 1 + r) * es ∧ C.all GV.isCell = true ∧ j + 1 + r = xs.length ∧ b ∈ R ∧ (∃ css Rs rest, GV.sl b 0 (j + r) (j + 1 + r) es = .sl b 0 (xs.eraseIdx j).length ((xs.eraseIdx j).length + 1) es ∧ (H.set b (C.take (j * es) ++ C.drop ((j + 1) * es) ++ z))[b]? = some (css.flatten ++ rest) ∧ rest.length = 1 * es ∧ All3 (E (H.set b (C.take (j * es) ++ C.drop ((j + 1) * es) ++ z))) css (xs.eraseIdx j) Rs ∧ R' = b :: Rs.flatten) ∧ R'.Nodup ∧ ∀ i ∈ R', i ∈ R := by
  rcases he with ⟨rfl, _, _⟩ | ⟨b, css, Rs, hv, hb, ha, rfl⟩
  · cases hj
  injection hv with hv
  subst hv
  obtain ⟨fl, fe⟩ := All3.flen (fun h => hE.len h) ha
  obtain ⟨r, hr⟩ : ∃ r, xs.length = j + 1 + r := ⟨xs.length - (j + 1), by omega⟩
  have hbl := (List.getElem?_eq_some_iff.1 hb).1
  rw [List.nodup_cons] at nd
  have hlen := ha.len
  have hcl : css.length = xs.length := by have := hlen; omega
  have hcell := All3.cellsG hE ha
  have hsub := flat_sub (List.eraseIdx_sublist (l := Rs) (k := j))
  refine ⟨b, css.flatten, r, b :: (Rs.eraseIdx j).flatten, by rw [hr], hb, by rw [fl, hr], hcell, hr.symm, List.mem_cons_self .., ⟨css.eraseIdx j, Rs.eraseIdx j, z, ?_, ?_, by rw [hz, Nat.one_mul], ?_, rfl⟩, ?_, fun i hi => ?_⟩
  · have : (xs.eraseIdx j).length = j + r := by rw [List.length_eraseIdx, if_pos hj]; omega
    rw [this, show j + r + 1 = j + 1 + r by omega]
  · rw [List.getElem?_set_self hbl, flat_erase fe j (by omega)]
  · exact All3.frame (fun a b => hE.frame a b) (ha.erase j) fun i hi => List.getElem?_set_ne fun e => nd.1 (by rw [e]; exact hsub.subset hi)
  · rw [List.nodup_cons]
    exact ⟨fun h => nd.1 (hsub.subset h), nd.2.sublist hsub⟩
  · rcases List.mem_cons.1 hi with rfl | hi
    · exact List.mem_cons_self ..
    · exact List.mem_cons_of_mem _ (hsub.subset hi)
end Go.Proofs.Ytlbnioapepelnaa.G

namespace Go.Proofs.Ytlbnioapepelnaa.G
open Go.RowKit
theorem All3.focus {α : Type} {es d : Nat} {mk : α → List GV} {E : Rel α} (hE : Good es d mk E) {h : Heap} : ∀ {css : List (List GV)} {xs : List α} {Rs : List (List Nat)} (ha : All3 (E h) css xs Rs) (nd : Rs.flatten.Nodup) {j : Nat} (hj : j < xs.length), ∃ (c : List GV) (r : List Nat), css[j]? = some c ∧ E h c xs[j] r ∧ (∀ i ∈ r, i ∈ Rs.flatten) ∧ r.Nodup ∧
    ∀ h' c' x' r', E h' c' x' r' → r'.Nodup → (∀ i ∈ r', i ∈ r ∨ i ∉ Rs.flatten) → (∀ i ∈ Rs.flatten, i ∉ r → h'[i]? = h[i]?) → ∃ Rs', All3 (E h') (css.set j c') (xs.set j x') Rs' ∧ Rs'.flatten.Nodup ∧ ∀ i ∈ Rs'.flatten, i ∈ Rs.flatten ∨ i ∈ r' := by
  intro css xs Rs ha
  induction ha with
  | nil => intro _ j hj; cases hj
  | @cons c x r css xs Rs a ha ih =>
    intro nd j hj
    rw [List.flatten_cons, List.nodup_append] at nd
    cases j with
    | zero =>
      refine ⟨c, r, rfl, a, fun i hi => ?_, nd.1, fun h' c' x' r' he hn hs hf => ⟨r' :: Rs, ?_, ?_, ?_⟩⟩
      · rw [List.flatten_cons]; exact List.mem_append_left _ hi
      · refine .cons he (All3.frame (fun a b => hE.frame a b) ha fun i hi => hf i (by rw [List.flatten_cons]; exact List.mem_append_right _ hi) fun hi' => ?_)
        exact nd.2.2 i hi' i hi rfl
      · rw [List.flatten_cons, List.nodup_append]
        refine ⟨hn, nd.2.1, fun i hi k hk e => ?_⟩
        subst e
        rcases hs i hi with h1 | h1
        · exact nd.2.2 i h1 i hk rfl
        · exact h1 (by rw [List.flatten_cons]; exact List.mem_append_right _ hk)
      · intro i hi
        rw [List.flatten_cons] at hi ⊢
        rcases List.mem_append.1 hi with hi | hi
        · exact Or.inr hi
        · exact Or.inl (List.mem_append_right _ hi)
    | succ j =>
      obtain ⟨c0, r0, b1, b2, b3, b4, b5⟩ := ih nd.2.1 (Nat.lt_of_succ_lt_succ hj)
      refine ⟨c0, r0, b1, b2, fun i hi => ?_, b4, fun h' c' x' r' he hn hs hf => ?_⟩
      · rw [List.flatten_cons]; exact List.mem_append_right _ (b3 i hi)
      · obtain ⟨Rs', q1, q2, q3⟩ := b5 h' c' x' r' he hn (fun i hi => (hs i hi).imp id fun h1 h2 => h1 (by rw [List.flatten_cons]; exact List.mem_append_right _ h2)) (fun i hi hn => hf i (by rw [List.flatten_cons]; exact List.mem_append_right _ hi) hn)
        refine ⟨r :: Rs', .cons (hE.frame a fun i hi => hf i (by rw [List.flatten_cons]; exact List.mem_append_left _ hi) fun hi' => nd.2.2 i hi i (b3 i hi') rfl) q1, ?_, ?_⟩
        · rw [List.flatten_cons, List.nodup_append]
          refine ⟨nd.1, q2, fun i hi k hk e => ?_⟩
          subst e
          rcases q3 i hk with h1 | h1
          · exact nd.2.2 i hi i h1 rfl
          · rcases hs i h1 with h2 | h2
            · exact nd.2.2 i hi i (b3 i h2) rfl
            · exact h2 (by rw [List.flatten_cons]; exact List.mem_append_left _ hi)
        · intro i hi
          rw [List.flatten_cons] at hi ⊢
          rcases List.mem_append.1 hi with hi | hi
          · exact Or.inl (List.mem_append_left _ hi)
          · exact (q3 i hi).imp (fun h => List.mem_append_right _ h) id
def RM {α : Type} (es : Nat) (E : Rel α) (m : Nat) (h : Heap) (v : GV) (xs : List α) (R : List Nat) : Prop := ∃ b css Rs rest, v = .sl b 0 xs.length (xs.length + m) es ∧ h[b]? = some (css.flatten ++ rest) ∧ rest.length = m * es ∧ All3 (E h) css xs Rs ∧ R = b :: Rs.flatten
theorem RM.rrm {α : Type} {es m : Nat} {E : Rel α} {h : Heap} {v : GV} {xs : List α} {R : List Nat} (he : RM es E m h v xs R) : RRm es E h [v] xs R := by
  obtain ⟨b, css, Rs, rest, rfl, h1, h2, h3, h4⟩ := he
  exact Or.inr ⟨b, css, Rs, rest, m, rfl, h1, h2, h3, h4⟩
theorem RM.frame {α : Type} {es d m : Nat} {mk : α → List GV} {E : Rel α} (hE : Good es d mk E) {h h' : Heap} {v : GV} {xs : List α} {R : List Nat} (he : RM es E m h v xs R) (hf : ∀ i ∈ R, h'[i]? = h[i]?) : RM es E m h' v xs R := by
  obtain ⟨b, css, Rs, rest, hv, hb, hm, ha, rfl⟩ := he
  exact ⟨b, css, Rs, rest, hv, (hf b (List.mem_cons_self ..)).trans hb, hm, All3.frame (fun a b => hE.frame a b) ha fun i hi => hf i (List.mem_cons_of_mem _ hi), rfl⟩
theorem RM.mem {α : Type} {es d m : Nat} {mk : α → List GV} {E : Rel α} (hE : Good es d mk E) {h : Heap} {v : GV} {xs : List α} {R : List Nat} (he : RM es E m h v xs R) : ∀ i ∈ R, i < h.length := RRm.mem hE he.rrm
theorem RM.keep {α : Type} {es d m : Nat} {mk : α → List GV} {E : Rel α} (hE : Good es d mk E) {h h' : Heap} {v : GV} {xs : List α} {R R' : List Nat} (he : RM es E m h v xs R) (f : Fr R' h h') (hd : ∀ i ∈ R, i ∉ R') : RM es E m h' v xs R := he.frame hE fun i hi => f.2 i (he.mem hE i hi) (hd i hi)
theorem flat_splice {es : Nat} {rest c' : List GV} {css : List (List GV)} (h : ∀ c ∈ css, c.length = es) (hc : c'.length = es) : ∀ {j : Nat}, j < css.length → splice (css.flatten ++ rest) (j * es) c' = (css.set j c').flatten ++ rest := by
  induction css with
  | nil => intro j hj; cases hj
  | cons c css ih =>
    intro j hj
    have h0 := h c (by simp)
    cases j with
    | zero =>
      unfold splice
      rw [Nat.zero_mul, List.take_zero, List.nil_append, Nat.zero_add, List.flatten_cons, List.set_cons_zero, List.flatten_cons, List.append_assoc, List.append_assoc]
      rw [List.drop_left' (by rw [h0, hc])]
    | succ j =>
      have e := ih (fun c hc => h c (by simp [hc])) (j := j) (by simpa using hj)
      unfold splice at e ⊢
      have e1 : (j + 1) * es = c.length + j * es := by rw [h0, Nat.add_mul]; omega
      have e2 : (j + 1) * es + c'.length = c.length + (j * es + c'.length) := by rw [e1]; omega
      rw [List.flatten_cons, List.set_cons_succ, List.flatten_cons, e2, e1, List.append_assoc c, List.take_length_add_append, List.drop_length_add_append, List.append_assoc c, List.append_assoc c, e, List.append_assoc]
theorem RM.focus {α : Type} {es d m : Nat} {mk : α → List GV} {E : Rel α} (hE : Good es d mk E) {h : Heap} {v : GV} {xs : List α} {R : List Nat} (he : RM es E m h v xs R) (nd : R.Nodup) {j : Nat} (hj : j < xs.length) :
    ∃ (b : Nat) (C c : List GV) (r : List Nat), v = .sl b 0 xs.length (xs.length + m) es ∧ h[b]? = some C ∧ C.length = (xs.length + m) * es ∧ c.length = es ∧ (∀ off, off < es → C[j * es + off]? = c[off]?) ∧ E h c xs[j] r ∧ b ∉ r ∧ b ∈ R ∧ (∀ i ∈ r, i ∈ R) ∧ r.Nodup ∧
      ∀ h' c' x' r', c'.length = es → h'[b]? = some (splice C (j * es) c') → E h' c' x' r' → r'.Nodup → (∀ i ∈ r', i ∈ r ∨ i ∉ R) → (∀ i ∈ R, i ≠ b → i ∉ r → h'[i]? = h[i]?) → ∃ R', RM es E m h' v (xs.set j x') R' ∧ R'.Nodup ∧ ∀ i ∈ R', i ∈ R ∨ i ∈ r' := by
  obtain ⟨b, css, Rs, rest, hv, hb, hm, ha, rfl⟩ := he
  obtain ⟨fl, fe⟩ := All3.flen (fun h => hE.len h) ha
  rw [List.nodup_cons] at nd
  obtain ⟨c, r, k1, k2, b3, k4, k5⟩ := All3.focus hE ha nd.2 hj
  have hcl := fe c (List.mem_of_getElem? k1)
  have hlen : css.length = xs.length := ha.len.1
  refine ⟨b, css.flatten ++ rest, c, r, hv, hb, by rw [List.length_append, fl, hm, Nat.add_mul], hcl, fun off ho => ?_, k2, fun h => nd.1 (b3 b h), List.mem_cons_self .., fun i hi => List.mem_cons_of_mem _ (b3 i hi), k4, fun h' c' x' r' hc' hb' hE' n' hs hf => ?_⟩
  · have g := css_get (off := off) fe k1 ho
    have hlt : j * es + off < css.flatten.length := by
      rw [fl]
      have : (j + 1) * es ≤ xs.length * es := Nat.mul_le_mul_right es hj
      rw [Nat.add_mul, Nat.one_mul] at this
      omega
    rw [List.getElem?_append_left hlt]; exact g
  · rw [flat_splice fe hc' (by omega)] at hb'
    obtain ⟨Rs', q1, q2, q3⟩ := k5 h' c' x' r' hE' n' (fun i hi => (hs i hi).imp id fun h1 h2 => h1 (List.mem_cons_of_mem _ h2)) (fun i hi hn => hf i (List.mem_cons_of_mem _ hi) (fun e => nd.1 (e ▸ hi)) hn)
    refine ⟨b :: Rs'.flatten, ⟨b, css.set j c', Rs', rest, by rw [List.length_set]; exact hv, hb', hm, q1, rfl⟩, ?_, fun i hi => ?_⟩
    · rw [List.nodup_cons]
      refine ⟨fun hi => ?_, q2⟩
      rcases q3 b hi with h1 | h1
      · exact nd.1 h1
      · rcases hs b h1 with h2 | h2
        · exact nd.1 (b3 b h2)
        · exact h2 (List.mem_cons_self ..)
    · rcases List.mem_cons.1 hi with rfl | hi
      · exact Or.inl (List.mem_cons_self ..)
      · exact (q3 i hi).imp (fun h => List.mem_cons_of_mem _ h) id
end Go.Proofs.Ytlbnioapepelnaa.G

namespace Go.Proofs.Ytlbnioapepelnaa.G
open Go.RowKit
structure FI (p lo : Nat) (a : ChainT) (H : Heap) (vS vD vU : GV) (RS RD RU : List Nat) : Prop where
  cell : H[p]? = some [vS, vD, vU]
  s : RM 2 rServer 1 H vS a.1 RS
  d : RM 1 rStringS 1 H vD a.2.1 RD
  u : RM 1 rInt64S 1 H vU a.2.2 RU
  ns : RS.Nodup
  nd : RD.Nodup
  nu : RU.Nodup
  sd : ∀ i ∈ RS, i ∉ RD
  su : ∀ i ∈ RS, i ∉ RU
  du : ∀ i ∈ RD, i ∉ RU
  ls : ∀ i ∈ RS, lo ≤ i
  ld : ∀ i ∈ RD, lo ≤ i
  lu : ∀ i ∈ RU, lo ≤ i
  ps : p ∉ RS
  pd : p ∉ RD
  pu : p ∉ RU
theorem FI.fin {p lo : Nat} {a : ChainT} {H : Heap} {vS vD vU : GV} {RS RD RU : List Nat} (h : FI p lo a H vS vD vU RS RD RU) : rChainR H [vS, vD, vU] a (RS ++ (RD ++ RU)) ∧ (RS ++ (RD ++ RU)).Nodup ∧ ∀ i ∈ RS ++ (RD ++ RU), lo ≤ i := by
  refine ⟨⟨[vS], [vD, vU], RS, RD ++ RU, rfl, rfl, h.s.rrm, [vD], [vU], RD, RU, rfl, rfl, h.d.rrm, h.u.rrm⟩, ?_, fun i hi => ?_⟩
  · rw [List.nodup_append, List.nodup_append]
    refine ⟨h.ns, ⟨h.nd, h.nu, fun i hi k hk e => h.du i hi (e ▸ hk)⟩, fun i hi k hk e => ?_⟩
    rcases List.mem_append.1 hk with hk | hk
    · exact h.sd i hi (e ▸ hk)
    · exact h.su i hi (e ▸ hk)
  · simp only [List.mem_append] at hi
    rcases hi with h1 | h1 | h1
    · exact h.ls i h1
    · exact h.ld i h1
    · exact h.lu i h1
theorem dels {p lo : Nat} {a : ChainT} {H : Heap} {vS vD vU : GV} {RS RD RU : List Nat} (C : ChainIn p lo a H vS vD vU RS RD RU) {j k : Nat} (hj : j < a.1.length) (hk1 : k < a.2.1.length) (hk2 : k < a.2.2.length) (h5 : a.1.length ≤ 1000) (h6 : a.2.1.length ≤ 1000) (h7 : a.2.2.length ≤ 1000) :
    ∃ vS' H1 H2 vD' H3 vU' H4 H5 H6 RS' RD' RU', HH fn.slices_Delete_impl_Server [vS, .int .i64 (j : Int), .int .i64 ((j + 1 : Nat) : Int)] H = some (vS', H1) ∧ kstore 1 H1 (.ptr p 0 3) vS' = some H2 ∧ kload1 H2 (.ptr p 1 3) = some vD ∧ rStringSS H2 [vD] a.2.1 RD ∧
      HH fn.slices_Delete_string_string [vD, .int .i64 (k : Int), .int .i64 ((k + 1 : Nat) : Int)] H2 = some (vD', H3) ∧ kload1 H3 (.ptr p 2 3) = some vU ∧ HH fn.slices_Delete_int64_int64 [vU, .int .i64 (k : Int), .int .i64 ((k + 1 : Nat) : Int)] H3 = some (vU', H4) ∧ kstore 1 H4 (.ptr p 1 3) vD' = some H5 ∧ kstore 1 H5 (.ptr p 2 3) vU' = some H6 ∧
      FI p lo (a.1.eraseIdx j, a.2.1.eraseIdx k, a.2.2.eraseIdx k) H6 vS' vD' vU' RS' RD' RU' ∧ (∀ i ∈ RS', i ∈ RS) ∧ (∀ i ∈ RD', i ∈ RD) ∧ (∀ i ∈ RU', i ∈ RU) ∧ Fr (p :: (RS ++ (RD ++ RU))) H H6 ∧ H6.length = H.length := by
  obtain ⟨bS, CS, rS, RS', rfl, s1, s2, s3, s4, s5, ⟨cS, qS, zS, w1, w2, w3, w4, w5⟩, s7, s8⟩ := RSl.del goodServer C.s C.ns hj (z := [.nils, .int .i64 0]) rfl
  have dS := delete_S s1 s2 s3 (by omega)
  obtain ⟨H1, hH1⟩ : ∃ H1, H.set bS (CS.take (j * 2) ++ CS.drop ((j + 1) * 2) ++ [.nils, .int .i64 0]) = H1 := ⟨_, rfl⟩
  rw [hH1] at dS w2 w4
  have f1 : Fr [bS] H H1 := by rw [← hH1]; exact .set (by simp)
  have l1 : H1.length = H.length := by rw [← hH1, List.length_set]
  have pbS : p ≠ bS := fun e => C.ps (e ▸ s5)
  have P1 := f1.blk C.cell (by simpa using pbS)
  have st1 := kstore_at (o := 0) (tot := 3) (x := .sl bS 0 (j + rS) (j + 1 + rS) 2) P1 rfl (by omega) rfl rfl
  simp only [List.set_cons_zero] at st1
  have hpl1 := (List.getElem?_eq_some_iff.1 P1).1
  obtain ⟨H2, hH2⟩ : ∃ H2, H1.set p [.sl bS 0 (j + rS) (j + 1 + rS) 2, vD, vU] = H2 := ⟨_, rfl⟩
  rw [hH2] at st1
  have f2 : Fr [p] H1 H2 := by rw [← hH2]; exact .set (by simp)
  have l2 : H2.length = H1.length := by rw [← hH2, List.length_set]
  have P2 : H2[p]? = some [.sl bS 0 (j + rS) (j + 1 + rS) 2, vD, vU] := by rw [← hH2]; exact List.getElem?_set_self hpl1
  have hd2 : rStringSS H2 [vD] a.2.1 RD := goodStringSS.keep (goodStringSS.keep C.d f1 (fun i hi h => by rw [List.mem_singleton] at h; exact C.sd bS s5 (h ▸ hi))) f2 (fun i hi h => by rw [List.mem_singleton] at h; exact C.pd (h ▸ hi))
  have hu2 : rInt64SS H2 [vU] a.2.2 RU := goodInt64SS.keep (goodInt64SS.keep C.u f1 (fun i hi h => by rw [List.mem_singleton] at h; exact C.su bS s5 (h ▸ hi))) f2 (fun i hi h => by rw [List.mem_singleton] at h; exact C.pu (h ▸ hi))
  have hs1 : RM 2 rServer 1 H1 (.sl bS 0 (j + rS) (j + 1 + rS) 2) (a.1.eraseIdx j) RS' := ⟨bS, cS, qS, zS, w1, w2, w3, w4, w5⟩
  have hs2 := hs1.keep goodServer f2 (fun i hi h => by rw [List.mem_singleton] at h; exact C.ps (h ▸ s8 i hi))
  have q1 := kload1_at (o := 1) (tot := 3) P2 rfl
  simp only [List.getElem?_cons_succ, List.getElem?_cons_zero] at q1
  obtain ⟨bD, CD, rD, RD', rfl, t1, t2, t3, t4, t5, ⟨cD, qD, zD, x1, x2, x3, x4, x5⟩, t7, t8⟩ := RSl.del goodStringS hd2 C.nd hk1 (z := [.nils]) rfl
  have dD := delete_D t1 t2 t3 (by omega)
  obtain ⟨H3, hH3⟩ : ∃ H3, H2.set bD (CD.take (k * 1) ++ CD.drop ((k + 1) * 1) ++ [.nils]) = H3 := ⟨_, rfl⟩
  rw [hH3] at dD x2 x4
  have f3 : Fr [bD] H2 H3 := by rw [← hH3]; exact .set (by simp)
  have l3 : H3.length = H2.length := by rw [← hH3, List.length_set]
  have pbD : p ≠ bD := fun e => C.pd (e ▸ t5)
  have P3 := f3.blk P2 (by simpa using pbD)
  have q2 := kload1_at (o := 2) (tot := 3) P3 rfl
  simp only [List.getElem?_cons_succ, List.getElem?_cons_zero] at q2
  have hu3 := goodInt64SS.keep hu2 f3 (fun i hi h => by rw [List.mem_singleton] at h; exact C.du bD t5 (h ▸ hi))
  have hs3 := hs2.keep goodServer f3 (fun i hi h => by rw [List.mem_singleton] at h; exact C.sd i (s8 i hi) (h ▸ t5))
  have hd3 : RM 1 rStringS 1 H3 (.sl bD 0 (k + rD) (k + 1 + rD) 1) (a.2.1.eraseIdx k) RD' := ⟨bD, cD, qD, zD, x1, x2, x3, x4, x5⟩
  obtain ⟨bU, CU, rU, RU', rfl, u1, u2, u3, u4, u5, ⟨cU, qU, zU, y1, y2, y3, y4, y5⟩, u7, u8⟩ := RSl.del goodInt64S hu3 C.nu hk2 (z := [.nils]) rfl
  have dU := delete_U u1 u2 u3 (by omega)
  obtain ⟨H4, hH4⟩ : ∃ H4, H3.set bU (CU.take (k * 1) ++ CU.drop ((k + 1) * 1) ++ [.nils]) = H4 := ⟨_, rfl⟩
  rw [hH4] at dU y2 y4
  have f4 : Fr [bU] H3 H4 := by rw [← hH4]; exact .set (by simp)
  have l4 : H4.length = H3.length := by rw [← hH4, List.length_set]
  have pbU : p ≠ bU := fun e => C.pu (e ▸ u5)
  have P4 := f4.blk P3 (by simpa using pbU)
  have hs4 := hs3.keep goodServer f4 (fun i hi h => by rw [List.mem_singleton] at h; exact C.su i (s8 i hi) (h ▸ u5))
  have hd4 := hd3.keep goodStringS f4 (fun i hi h => by rw [List.mem_singleton] at h; exact C.du i (t8 i hi) (h ▸ u5))
  have hu4 : RM 1 rInt64S 1 H4 (.sl bU 0 (k + rU) (k + 1 + rU) 1) (a.2.2.eraseIdx k) RU' := ⟨bU, cU, qU, zU, y1, y2, y3, y4, y5⟩
  have st4 := kstore_at (o := 1) (tot := 3) (x := .sl bD 0 (k + rD) (k + 1 + rD) 1) P4 rfl (by omega) rfl rfl
  simp only [List.set_cons_zero, List.set_cons_succ] at st4
  have hpl4 := (List.getElem?_eq_some_iff.1 P4).1
  obtain ⟨H5, hH5⟩ : ∃ H5, H4.set p [.sl bS 0 (j + rS) (j + 1 + rS) 2, .sl bD 0 (k + rD) (k + 1 + rD) 1, .sl bU 0 (k + 1 + rU) (k + 1 + rU) 1] = H5 := ⟨_, rfl⟩
  rw [hH5] at st4
  have P5 : H5[p]? = some [.sl bS 0 (j + rS) (j + 1 + rS) 2, .sl bD 0 (k + rD) (k + 1 + rD) 1, .sl bU 0 (k + 1 + rU) (k + 1 + rU) 1] := by rw [← hH5]; exact List.getElem?_set_self hpl4
  have st5 := kstore_at (o := 2) (tot := 3) (x := .sl bU 0 (k + rU) (k + 1 + rU) 1) P5 rfl (by omega) rfl rfl
  simp only [List.set_cons_zero, List.set_cons_succ] at st5
  have hpl5 := (List.getElem?_eq_some_iff.1 P5).1
  obtain ⟨H6, hH6⟩ : ∃ H6, H5.set p [.sl bS 0 (j + rS) (j + 1 + rS) 2, .sl bD 0 (k + rD) (k + 1 + rD) 1, .sl bU 0 (k + rU) (k + 1 + rU) 1] = H6 := ⟨_, rfl⟩
  rw [hH6] at st5
  have P6 : H6[p]? = some [.sl bS 0 (j + rS) (j + 1 + rS) 2, .sl bD 0 (k + rD) (k + 1 + rD) 1, .sl bU 0 (k + rU) (k + 1 + rU) 1] := by rw [← hH6]; exact List.getElem?_set_self hpl5
  have f46 : Fr [p] H4 H6 := (show Fr [p] H4 H5 by rw [← hH5]; exact .set (by simp)).trans (show Fr [p] H5 H6 by rw [← hH6]; exact .set (by simp))
  have np : ∀ {X Y : List Nat}, p ∉ X → (∀ i ∈ Y, i ∈ X) → ∀ i ∈ Y, i ∉ [p] := fun hx hs i hi h => by rw [List.mem_singleton] at h; exact hx (h ▸ hs i hi)
  refine ⟨_, H1, H2, _, H3, _, H4, H5, H6, RS', RD', RU', dS, st1, q1, hd2, dD, q2, dU, st4, st5, ⟨P6, hs4.keep goodServer f46 (np C.ps s8), hd4.keep goodStringS f46 (np C.pd t8), hu4.keep goodInt64S f46 (np C.pu u8), s7, t7, u7, fun i hi h => C.sd i (s8 i hi) (t8 i h), fun i hi h => C.su i (s8 i hi) (u8 i h), fun i hi h => C.du i (t8 i hi) (u8 i h), fun i hi => C.ls i (s8 i hi), fun i hi => C.ld i (t8 i hi), fun i hi => C.lu i (u8 i hi), fun h => C.ps (s8 p h), fun h => C.pd (t8 p h), fun h => C.pu (u8 p h)⟩, s8, t8, u8, ?_, ?_⟩
  · refine (f1.sub fun i hi => ?_).trans ((f2.sub fun i hi => ?_).trans ((f3.sub fun i hi => ?_).trans ((f4.sub fun i hi => ?_).trans (f46.sub fun i hi => ?_))))
    all_goals (rw [List.mem_singleton] at hi; subst hi; simp [s5, t5, u5])
  · rw [← hH6, List.length_set, ← hH5, List.length_set]; omega
end Go.Proofs.Ytlbnioapepelnaa.G

namespace Go.Proofs.Ytlbnioapepelnaa.G
open Go.RowKit
/-! Which blocks data lead to. -/
def Cl {α : Type} (d : Nat) (E : Rel α) : Prop := ∀ {h : Heap} {c : List GV} {x : α} {R : List Nat}, E h c x R → ∀ D, kcll (kcl (D + d) h) c = some R
theorem kcll_pl {d : Nat} {h : Heap} : ∀ {l : List GV}, l.all Pl = true → kcll (kcl d h) l = some []
  | [], _ => rfl
  | g :: l, hl => by
    rw [List.all_cons, Bool.and_eq_true] at hl
    have e : kcl d h g = some [] := by
      cases g <;> first | (cases d <;> rfl) | cases hl.1
    unfold kcll
    rw [e, kcll_pl hl.2]; rfl
theorem kcll_app {f : GV → Option (List Nat)} : ∀ {l m : List GV} {a b : List Nat}, kcll f l = some a → kcll f m = some b → kcll f (l ++ m) = some (a ++ b)
  | [], m, a, b, h1, h2 => by cases h1; exact h2
  | g :: l, m, a, b, h1, h2 => by
    unfold kcll at h1
    obtain ⟨p, e1, h1⟩ := obsi.1 h1
    obtain ⟨q, e2, h1⟩ := obsi.1 h1
    cases h1
    rw [List.cons_append]
    unfold kcll
    rw [e1, kcll_app e2 h2]
    simp
theorem RFl.cl {α : Type} {mk : α → List GV} (hp : ∀ x, (mk x).all Pl = true) {d : Nat} : Cl d (RFl mk) := by
  rintro h c x R ⟨rfl, rfl⟩ D
  exact kcll_pl (hp x)
theorem RSeq.cl {α β : Type} {d : Nat} {E : Rel α} {F : Rel β} (hE : Cl d E) (hF : Cl d F) : Cl d (RSeq E F) := by
  rintro h c x R ⟨c1, c2, R1, R2, rfl, rfl, h1, h2⟩ D
  exact kcll_app (hE h1 D) (hF h2 D)
theorem RSl.cl {α : Type} {es d : Nat} {E : Rel α} (hE : Cl d E) : Cl (d + 1) (RSl es E) := by
  rintro h c xs R (⟨rfl, rfl, hc⟩ | ⟨b, css, Rs, rfl, hb, ha, rfl⟩) D
  · rcases hc with rfl | rfl <;> rfl
  · have key : ∀ {css : List (List GV)} {xs : List α} {Rs : List (List Nat)}, All3 (E h) css xs Rs → kcll (kcl (D + d) h) css.flatten = some Rs.flatten := by
      intro css xs Rs ha
      induction ha with
      | nil => rfl
      | cons a _ ih => rw [List.flatten_cons, List.flatten_cons]; exact kcll_app (hE a D) ih
    have e : kcl (D + (d + 1)) h (.sl b 0 xs.length xs.length es) = some (b :: Rs.flatten) := by
      rw [← Nat.add_assoc]
      simp only [kcl, hb, key ha, Option.bind_some]
    simp only [kcll, e, Option.bind_some]
    simp
theorem Cl.mono {α : Type} {d d' : Nat} {E : Rel α} (hE : Cl d E) (hd : d ≤ d') : Cl d' E := fun {h c x R} he D => by
  have := hE he (D + (d' - d))
  rwa [show D + (d' - d) + d = D + d' by omega] at this
theorem Cl.agg {α : Type} {d : Nat} {E : Rel α} (hE : Cl d E) (hd : d ≤ 8) {h : Heap} {c : List GV} {x : α} {R : List Nat} (he : E h c x R) : kcl 9 h (.agg c) = some R := by
  have := hE he (8 - d)
  rw [show 8 - d + d = 8 by omega] at this
  exact this
end Go.Proofs.Ytlbnioapepelnaa.G
