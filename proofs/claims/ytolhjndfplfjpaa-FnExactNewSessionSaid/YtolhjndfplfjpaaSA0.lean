/- What these functions do, told for open values, out of the machine with continuations. Printed by a program of this session. -/
import Derived.Test.YtolhjndfplfjpaaCfg
import Derived.KernelRfl
namespace Go.Proofs.Ytolhjndfplfjpaa.G
open Go.RowKit
set_option linter.unusedVariables false
set_option maxRecDepth 100000
abbrev KT0 (R : Type) : Type := GX → Heap → Option R
abbrev KT1 (R : Type) : Type := GX → GV → Heap → Option R
abbrev KT2 (R : Type) : Type := GX → GV → GV → Heap → Option R
abbrev KT3 (R : Type) : Type := GX → GV → GV → GV → Heap → Option R
abbrev KT4 (R : Type) : Type := GX → GV → GV → GV → GV → Heap → Option R
abbrev KT5 (R : Type) : Type := GX → GV → GV → GV → GV → GV → Heap → Option R
abbrev KT6 (R : Type) : Type := GX → GV → GV → GV → GV → GV → GV → Heap → Option R
abbrev KT7 (R : Type) : Type := GX → GV → GV → GV → GV → GV → GV → GV → Heap → Option R
abbrev KT8 (R : Type) : Type := GX → GV → GV → GV → GV → GV → GV → GV → GV → Heap → Option R
abbrev KT9 (R : Type) : Type := GX → GV → GV → GV → GV → GV → GV → GV → GV → GV → Heap → Option R
abbrev KT10 (R : Type) : Type := GX → GV → GV → GV → GV → GV → GV → GV → GV → GV → GV → Heap → Option R
abbrev KT11 (R : Type) : Type := GX → GV → GV → GV → GV → GV → GV → GV → GV → GV → GV → GV → Heap → Option R
abbrev KT12 (R : Type) : Type := GX → GV → GV → GV → GV → GV → GV → GV → GV → GV → GV → GV → GV → Heap → Option R
abbrev KT13 (R : Type) : Type := GX → GV → GV → GV → GV → GV → GV → GV → GV → GV → GV → GV → GV → GV → Heap → Option R
abbrev KT14 (R : Type) : Type := GX → GV → GV → GV → GV → GV → GV → GV → GV → GV → GV → GV → GV → GV → GV → Heap → Option R
abbrev KT15 (R : Type) : Type := GX → GV → GV → GV → GV → GV → GV → GV → GV → GV → GV → GV → GV → GV → GV → GV → Heap → Option R
abbrev KT16 (R : Type) : Type := GX → GV → GV → GV → GV → GV → GV → GV → GV → GV → GV → GV → GV → GV → GV → GV → GV → Heap → Option R
abbrev KT17 (R : Type) : Type := GX → GV → GV → GV → GV → GV → GV → GV → GV → GV → GV → GV → GV → GV → GV → GV → GV → GV → Heap → Option R
abbrev KT18 (R : Type) : Type := GX → GV → GV → GV → GV → GV → GV → GV → GV → GV → GV → GV → GV → GV → GV → GV → GV → GV → GV → Heap → Option R
abbrev KT19 (R : Type) : Type := GX → GV → GV → GV → GV → GV → GV → GV → GV → GV → GV → GV → GV → GV → GV → GV → GV → GV → GV → GV → Heap → Option R
abbrev KT20 (R : Type) : Type := GX → GV → GV → GV → GV → GV → GV → GV → GV → GV → GV → GV → GV → GV → GV → GV → GV → GV → GV → GV → GV → Heap → Option R
abbrev KT21 (R : Type) : Type := GX → GV → GV → GV → GV → GV → GV → GV → GV → GV → GV → GV → GV → GV → GV → GV → GV → GV → GV → GV → GV → GV → Heap → Option R
abbrev KT22 (R : Type) : Type := GX → GV → GV → GV → GV → GV → GV → GV → GV → GV → GV → GV → GV → GV → GV → GV → GV → GV → GV → GV → GV → GV → GV → Heap → Option R
abbrev KT23 (R : Type) : Type := GX → GV → GV → GV → GV → GV → GV → GV → GV → GV → GV → GV → GV → GV → GV → GV → GV → GV → GV → GV → GV → GV → GV → GV → Heap → Option R
abbrev KT24 (R : Type) : Type := GX → GV → GV → GV → GV → GV → GV → GV → GV → GV → GV → GV → GV → GV → GV → GV → GV → GV → GV → GV → GV → GV → GV → GV → GV → Heap → Option R
abbrev KT25 (R : Type) : Type := GX → GV → GV → GV → GV → GV → GV → GV → GV → GV → GV → GV → GV → GV → GV → GV → GV → GV → GV → GV → GV → GV → GV → GV → GV → GV → Heap → Option R
abbrev KT26 (R : Type) : Type := GX → GV → GV → GV → GV → GV → GV → GV → GV → GV → GV → GV → GV → GV → GV → GV → GV → GV → GV → GV → GV → GV → GV → GV → GV → GV → GV → Heap → Option R
abbrev KT27 (R : Type) : Type := GX → GV → GV → GV → GV → GV → GV → GV → GV → GV → GV → GV → GV → GV → GV → GV → GV → GV → GV → GV → GV → GV → GV → GV → GV → GV → GV → GV → Heap → Option R
abbrev KT28 (R : Type) : Type := GX → GV → GV → GV → GV → GV → GV → GV → GV → GV → GV → GV → GV → GV → GV → GV → GV → GV → GV → GV → GV → GV → GV → GV → GV → GV → GV → GV → GV → Heap → Option R
abbrev KT29 (R : Type) : Type := GX → GV → GV → GV → GV → GV → GV → GV → GV → GV → GV → GV → GV → GV → GV → GV → GV → GV → GV → GV → GV → GV → GV → GV → GV → GV → GV → GV → GV → GV → Heap → Option R
abbrev KT30 (R : Type) : Type := GX → GV → GV → GV → GV → GV → GV → GV → GV → GV → GV → GV → GV → GV → GV → GV → GV → GV → GV → GV → GV → GV → GV → GV → GV → GV → GV → GV → GV → GV → GV → Heap → Option R
noncomputable section
variable {R : Type} (k : Nat)
/-! laws_eqSession -/
namespace S.laws_eqSession
noncomputable def c0 : Code := bodyOf Try.f7
@[simp] def n0 {R : Type} (k : Nat) (G : KT1 R) (v0 v1 : GV) (h : Heap) : Option R := kbox v0 h fun v2 h => kbox v1 h fun v3 h => (kfa 0 v2).bind fun v5 => (kloadA 30 h v5).bind fun v6 => (kfa 0 v3).bind fun v7 => (kloadA 30 h v7).bind fun v8 => (kN NN fn.laws_eqTerm [v6, v8] h).bind fun v9 => (kun .not v9).bind fun v10 => kcond v10 (G .ret (.bool false) h) ((kfa 30 v2).bind fun v11 => (kload1 h v11).bind fun v12 => (kfa 30 v3).bind fun v13 => (kload1 h v13).bind fun v14 => (kbin .neq v12 v14).bind fun v15 => kcond v15 (G .ret (.bool false) h) ((kfa 31 v2).bind fun v16 => (kload1 h v16).bind fun v17 => (kfa 31 v3).bind fun v18 => (kload1 h v18).bind fun v19 => (kN NN fn.laws_eqInt64S [v17, v19] h).bind fun v20 => (kun .not v20).bind fun v21 => kcond v21 (G .ret (.bool false) h) ((kfa 32 v2).bind fun v22 => (kload1 h v22).bind fun v23 => (kfa 32 v3).bind fun v24 => (kload1 h v24).bind fun v25 => (kbin .neq v23 v25).bind fun v26 => kcond v26 (G .ret (.bool false) h) (G .ret (.bool true) h))))
theorem n0_eq (G : KT1 R) (σ : GS) (h : Heap) : KC k 27 c0 σ h (fun x σ h => G x (σ 4) h) = n0 k G (σ 0) (σ 1) h := by kernel_rfl
def run {R : Type} (k : Nat) (a0 : GV) (a1 : GV) (h : Heap) (fin : GV → Heap → Option R) : Option R := n0 k (fun x v4 h => kend x (fin v4 h)) a0 a1 h
theorem run_eq {R : Type} (k : Nat) (a0 : GV) (a1 : GV) (h : Heap) (fin : GV → Heap → Option R) : kfun PP cfg NN HH k fn.laws_eqSession [a0, a1] h fin = run k a0 a1 h fin := (kfun_eq (nt := 27) (c := c0) (show PP.funcs[fn.laws_eqSession]? = some Try.f7 by kernel_rfl) (by kernel_rfl) (by kernel_rfl) (fun x σ h => by cases x <;> kernel_rfl)).trans (n0_eq k (fun x v4 h => kend x (fin v4 h)) _ h)
theorem gives {k : Nat} {a0 : GV} {a1 : GV} {v : GV} (e : run k a0 a1 [] finN = some v) : NN fn.laws_eqSession [a0, a1] = some v := nω_of (by kernel_rfl) ((run_eq k a0 a1 [] finN).trans e)
end S.laws_eqSession
/-! laws_markSession -/
namespace S.laws_markSession
noncomputable def c0 : Code := bodyOf Try.f8
@[simp] def n0 {R : Type} (k : Nat) (G : KT1 R) (v0 v1 : GV) (h : Heap) : Option R := kbox v0 h fun v2 h => (kfa 0 v2).bind fun v5 => (kloadA 30 h v5).bind fun v6 => (HH fn.laws_markTerm [v6, v1] h).bind fun r => kr r fun v8 h => (kfa 31 v2).bind fun v9 => (kload1 h v9).bind fun v10 => (HH fn.laws_markInt64S [v10, v8] h).bind fun r => kr r fun v12 h => G .ret v12 h
theorem n0_eq (G : KT1 R) (σ : GS) (h : Heap) : KC k 14 c0 σ h (fun x σ h => G x (σ 4) h) = n0 k G (σ 0) (σ 1) h := by kernel_rfl
def run {R : Type} (k : Nat) (a0 : GV) (a1 : GV) (h : Heap) (fin : GV → Heap → Option R) : Option R := n0 k (fun x v4 h => kend x (fin v4 h)) a0 a1 h
theorem run_eq {R : Type} (k : Nat) (a0 : GV) (a1 : GV) (h : Heap) (fin : GV → Heap → Option R) : kfun PP cfg NN HH k fn.laws_markSession [a0, a1] h fin = run k a0 a1 h fin := (kfun_eq (nt := 14) (c := c0) (show PP.funcs[fn.laws_markSession]? = some Try.f8 by kernel_rfl) (by kernel_rfl) (by kernel_rfl) (fun x σ h => by cases x <;> kernel_rfl)).trans (n0_eq k (fun x v4 h => kend x (fin v4 h)) _ h)
theorem gives {k : Nat} {a0 : GV} {a1 : GV} {h : Heap} {r : GV × Heap} (e : run k a0 a1 h finH = some r) : HH fn.laws_markSession [a0, a1] h = some r := kω_of ((run_eq k a0 a1 h finH).trans e)
end S.laws_markSession
/-! laws_heldSession -/
namespace S.laws_heldSession
noncomputable def c0 : Code := bodyOf Try.f9
@[simp] def n0 {R : Type} (k : Nat) (G : KT1 R) (v0 v1 : GV) (h : Heap) : Option R := kbox v0 h fun v2 h => (kfa 0 v2).bind fun v5 => (kloadA 30 h v5).bind fun v6 => (kN NN fn.laws_heldTerm [v6, v1] h).bind fun v8 => (kbin .lss v8 (.int .i64 0)).bind fun v10 => kcond v10 (G .ret (.int .i64 (-1)) h) ((kfa 31 v2).bind fun v11 => (kload1 h v11).bind fun v12 => (kN NN fn.laws_heldInt64S [v12, v8] h).bind fun v14 => (kbin .lss v14 (.int .i64 0)).bind fun v16 => kcond v16 (G .ret (.int .i64 (-1)) h) (G .ret v14 h))
theorem n0_eq (G : KT1 R) (σ : GS) (h : Heap) : KC k 18 c0 σ h (fun x σ h => G x (σ 4) h) = n0 k G (σ 0) (σ 1) h := by kernel_rfl
def run {R : Type} (k : Nat) (a0 : GV) (a1 : GV) (h : Heap) (fin : GV → Heap → Option R) : Option R := n0 k (fun x v4 h => kend x (fin v4 h)) a0 a1 h
theorem run_eq {R : Type} (k : Nat) (a0 : GV) (a1 : GV) (h : Heap) (fin : GV → Heap → Option R) : kfun PP cfg NN HH k fn.laws_heldSession [a0, a1] h fin = run k a0 a1 h fin := (kfun_eq (nt := 18) (c := c0) (show PP.funcs[fn.laws_heldSession]? = some Try.f9 by kernel_rfl) (by kernel_rfl) (by kernel_rfl) (fun x σ h => by cases x <;> kernel_rfl)).trans (n0_eq k (fun x v4 h => kend x (fin v4 h)) _ h)
theorem gives {k : Nat} {a0 : GV} {a1 : GV} {v : GV} (e : run k a0 a1 [] finN = some v) : NN fn.laws_heldSession [a0, a1] = some v := nω_of (by kernel_rfl) ((run_eq k a0 a1 [] finN).trans e)
end S.laws_heldSession
/-! laws_eqTerm -/
namespace S.laws_eqTerm
noncomputable def c0 : Code := bodyOf Try.f17
noncomputable def c1 : Code := cR c0
noncomputable def c2 : Code := cR c1
noncomputable def c3 : Code := cR c2
noncomputable def c4 : Code := cR c3
noncomputable def c5 : Code := cR c4
noncomputable def c6 : Code := cR c5
noncomputable def c7 : Code := cR c6
noncomputable def c8 : Code := cR c7
noncomputable def c9 : Code := cR c8
noncomputable def c10 : Code := cR c9
noncomputable def c11 : Code := cR c10
noncomputable def c12 : Code := cR c11
@[simp] def n12 {R : Type} (k : Nat) (G : KT1 R) (v2 v3 v4 : GV) (h : Heap) : Option R := (kfa 17 v2).bind fun v63 => (kload1 h v63).bind fun v64 => (kfa 17 v3).bind fun v65 => (kload1 h v65).bind fun v66 => (kbin .neq v64 v66).bind fun v67 => kcond v67 (G .ret (.bool false) h) ((kfa 18 v2).bind fun v68 => (kload1 h v68).bind fun v69 => (kfa 18 v3).bind fun v70 => (kload1 h v70).bind fun v71 => (kbin .neq v69 v71).bind fun v72 => kcond v72 (G .ret (.bool false) h) ((kfa 19 v2).bind fun v73 => (kloadA 5 h v73).bind fun v74 => (kfa 19 v3).bind fun v75 => (kloadA 5 h v75).bind fun v76 => (kN NN fn.laws_eqStyle [v74, v76] h).bind fun v77 => (kun .not v77).bind fun v78 => kcond v78 (G .ret (.bool false) h) ((kfa 24 v2).bind fun v79 => (kload1 h v79).bind fun v80 => (kfa 24 v3).bind fun v81 => (kload1 h v81).bind fun v82 => (kN NN fn.laws_eqInt64S [v80, v82] h).bind fun v83 => (kun .not v83).bind fun v84 => kcond v84 (G .ret (.bool false) h) ((kfa 25 v2).bind fun v85 => (kloadA 4 h v85).bind fun v86 => (kfa 25 v3).bind fun v87 => (kloadA 4 h v87).bind fun v88 => (kN NN fn.laws_eqParser [v86, v88] h).bind fun v89 => (kun .not v89).bind fun v90 => kcond v90 (G .ret (.bool false) h) ((kfa 29 v2).bind fun v91 => (kloadA 1 h v91).bind fun v92 => (kfa 29 v3).bind fun v93 => (kloadA 1 h v93).bind fun v94 => (kN NN fn.laws_eqFeeder [v92, v94] h).bind fun v95 => (kun .not v95).bind fun v96 => kcond v96 (G .ret (.bool false) h) (G .ret (.bool true) h))))))
theorem n12_eq (G : KT1 R) (σ : GS) (h : Heap) : KC k 97 c12 σ h (fun x σ h => G x (σ 4) h) = n12 k G (σ 2) (σ 3) (σ 4) h := by kernel_rfl
noncomputable def c13 : Code := cL c11
@[simp] def n11 (G : KT1 R) (v2 v3 v4 : GV) (h : Heap) : Option R := (kfa 16 v2).bind fun v58 => (kload1 h v58).bind fun v59 => (kfa 16 v3).bind fun v60 => (kload1 h v60).bind fun v61 => (keqB .neq v59 v61).bind fun v62 => kcond v62 (G .ret (.bool false) h) (n12 k G v2 v3 v4 h)
theorem n11_eq (G : KT1 R) (σ : GS) (h : Heap) : KC k 97 c11 σ h (fun x σ h => G x (σ 4) h) = n11 k G (σ 2) (σ 3) (σ 4) h := (kseq (a := c13) (b := c12) rfl (fun σ h => n12_eq k G σ h)).trans (by kernel_rfl)
noncomputable def c14 : Code := cL c10
@[simp] def n10 (G : KT1 R) (v2 v3 v4 : GV) (h : Heap) : Option R := (kfa 15 v2).bind fun v53 => (kload1 h v53).bind fun v54 => (kfa 15 v3).bind fun v55 => (kload1 h v55).bind fun v56 => (keqB .neq v54 v56).bind fun v57 => kcond v57 (G .ret (.bool false) h) (n11 k G v2 v3 v4 h)
theorem n10_eq (G : KT1 R) (σ : GS) (h : Heap) : KC k 97 c10 σ h (fun x σ h => G x (σ 4) h) = n10 k G (σ 2) (σ 3) (σ 4) h := (kseq (a := c14) (b := c11) rfl (fun σ h => n11_eq k G σ h)).trans (by kernel_rfl)
noncomputable def c15 : Code := cL c9
@[simp] def n9 (G : KT1 R) (v2 v3 v4 : GV) (h : Heap) : Option R := (kfa 14 v2).bind fun v48 => (kload1 h v48).bind fun v49 => (kfa 14 v3).bind fun v50 => (kload1 h v50).bind fun v51 => (keqB .neq v49 v51).bind fun v52 => kcond v52 (G .ret (.bool false) h) (n10 k G v2 v3 v4 h)
theorem n9_eq (G : KT1 R) (σ : GS) (h : Heap) : KC k 97 c9 σ h (fun x σ h => G x (σ 4) h) = n9 k G (σ 2) (σ 3) (σ 4) h := (kseq (a := c15) (b := c10) rfl (fun σ h => n10_eq k G σ h)).trans (by kernel_rfl)
noncomputable def c16 : Code := cL c8
@[simp] def n8 (G : KT1 R) (v2 v3 v4 : GV) (h : Heap) : Option R := (kfa 13 v2).bind fun v43 => (kload1 h v43).bind fun v44 => (kfa 13 v3).bind fun v45 => (kload1 h v45).bind fun v46 => (keqB .neq v44 v46).bind fun v47 => kcond v47 (G .ret (.bool false) h) (n9 k G v2 v3 v4 h)
theorem n8_eq (G : KT1 R) (σ : GS) (h : Heap) : KC k 97 c8 σ h (fun x σ h => G x (σ 4) h) = n8 k G (σ 2) (σ 3) (σ 4) h := (kseq (a := c16) (b := c9) rfl (fun σ h => n9_eq k G σ h)).trans (by kernel_rfl)
noncomputable def c17 : Code := cL c7
@[simp] def n7 (G : KT1 R) (v2 v3 v4 : GV) (h : Heap) : Option R := (kfa 12 v2).bind fun v38 => (kload1 h v38).bind fun v39 => (kfa 12 v3).bind fun v40 => (kload1 h v40).bind fun v41 => (kbin .neq v39 v41).bind fun v42 => kcond v42 (G .ret (.bool false) h) (n8 k G v2 v3 v4 h)
theorem n7_eq (G : KT1 R) (σ : GS) (h : Heap) : KC k 97 c7 σ h (fun x σ h => G x (σ 4) h) = n7 k G (σ 2) (σ 3) (σ 4) h := (kseq (a := c17) (b := c8) rfl (fun σ h => n8_eq k G σ h)).trans (by kernel_rfl)
noncomputable def c18 : Code := cL c6
@[simp] def n6 (G : KT1 R) (v2 v3 v4 : GV) (h : Heap) : Option R := (kfa 11 v2).bind fun v33 => (kload1 h v33).bind fun v34 => (kfa 11 v3).bind fun v35 => (kload1 h v35).bind fun v36 => (kbin .neq v34 v36).bind fun v37 => kcond v37 (G .ret (.bool false) h) (n7 k G v2 v3 v4 h)
theorem n6_eq (G : KT1 R) (σ : GS) (h : Heap) : KC k 97 c6 σ h (fun x σ h => G x (σ 4) h) = n6 k G (σ 2) (σ 3) (σ 4) h := (kseq (a := c18) (b := c7) rfl (fun σ h => n7_eq k G σ h)).trans (by kernel_rfl)
noncomputable def c19 : Code := cL c5
@[simp] def n5 (G : KT1 R) (v2 v3 v4 : GV) (h : Heap) : Option R := (kfa 6 v2).bind fun v27 => (kloadA 5 h v27).bind fun v28 => (kfa 6 v3).bind fun v29 => (kloadA 5 h v29).bind fun v30 => (kN NN fn.laws_eqStyle [v28, v30] h).bind fun v31 => (kun .not v31).bind fun v32 => kcond v32 (G .ret (.bool false) h) (n6 k G v2 v3 v4 h)
theorem n5_eq (G : KT1 R) (σ : GS) (h : Heap) : KC k 97 c5 σ h (fun x σ h => G x (σ 4) h) = n5 k G (σ 2) (σ 3) (σ 4) h := (kseq (a := c19) (b := c6) rfl (fun σ h => n6_eq k G σ h)).trans (by kernel_rfl)
noncomputable def c20 : Code := cL c4
@[simp] def n4 (G : KT1 R) (v2 v3 v4 : GV) (h : Heap) : Option R := (kfa 5 v2).bind fun v22 => (kload1 h v22).bind fun v23 => (kfa 5 v3).bind fun v24 => (kload1 h v24).bind fun v25 => (kbin .neq v23 v25).bind fun v26 => kcond v26 (G .ret (.bool false) h) (n5 k G v2 v3 v4 h)
theorem n4_eq (G : KT1 R) (σ : GS) (h : Heap) : KC k 97 c4 σ h (fun x σ h => G x (σ 4) h) = n4 k G (σ 2) (σ 3) (σ 4) h := (kseq (a := c20) (b := c5) rfl (fun σ h => n5_eq k G σ h)).trans (by kernel_rfl)
noncomputable def c21 : Code := cL c3
@[simp] def n3 (G : KT1 R) (v2 v3 v4 : GV) (h : Heap) : Option R := (kfa 4 v2).bind fun v17 => (kload1 h v17).bind fun v18 => (kfa 4 v3).bind fun v19 => (kload1 h v19).bind fun v20 => (kbin .neq v18 v20).bind fun v21 => kcond v21 (G .ret (.bool false) h) (n4 k G v2 v3 v4 h)
theorem n3_eq (G : KT1 R) (σ : GS) (h : Heap) : KC k 97 c3 σ h (fun x σ h => G x (σ 4) h) = n3 k G (σ 2) (σ 3) (σ 4) h := (kseq (a := c21) (b := c4) rfl (fun σ h => n4_eq k G σ h)).trans (by kernel_rfl)
noncomputable def c22 : Code := cL c2
@[simp] def n2 (G : KT1 R) (v2 v3 v4 : GV) (h : Heap) : Option R := (kfa 2 v2).bind fun v11 => (kloadA 2 h v11).bind fun v12 => (kfa 2 v3).bind fun v13 => (kloadA 2 h v13).bind fun v14 => (kN NN fn.laws_eqGrid [v12, v14] h).bind fun v15 => (kun .not v15).bind fun v16 => kcond v16 (G .ret (.bool false) h) (n3 k G v2 v3 v4 h)
theorem n2_eq (G : KT1 R) (σ : GS) (h : Heap) : KC k 97 c2 σ h (fun x σ h => G x (σ 4) h) = n2 k G (σ 2) (σ 3) (σ 4) h := (kseq (a := c22) (b := c3) rfl (fun σ h => n3_eq k G σ h)).trans (by kernel_rfl)
noncomputable def c23 : Code := cL c1
@[simp] def n1 (G : KT1 R) (v2 v3 v4 : GV) (h : Heap) : Option R := (kfa 0 v2).bind fun v5 => (kloadA 2 h v5).bind fun v6 => (kfa 0 v3).bind fun v7 => (kloadA 2 h v7).bind fun v8 => (kN NN fn.laws_eqGrid [v6, v8] h).bind fun v9 => (kun .not v9).bind fun v10 => kcond v10 (G .ret (.bool false) h) (n2 k G v2 v3 v4 h)
theorem n1_eq (G : KT1 R) (σ : GS) (h : Heap) : KC k 97 c1 σ h (fun x σ h => G x (σ 4) h) = n1 k G (σ 2) (σ 3) (σ 4) h := (kseq (a := c23) (b := c2) rfl (fun σ h => n2_eq k G σ h)).trans (by kernel_rfl)
noncomputable def c24 : Code := cL c0
@[simp] def n0 (G : KT1 R) (v0 v1 : GV) (h : Heap) : Option R := kbox v0 h fun v2 h => kbox v1 h fun v3 h => n1 k G v2 v3 (.bool false) h
theorem n0_eq (G : KT1 R) (σ : GS) (h : Heap) : KC k 97 c0 σ h (fun x σ h => G x (σ 4) h) = n0 k G (σ 0) (σ 1) h := (kseq (a := c24) (b := c1) rfl (fun σ h => n1_eq k G σ h)).trans (by kernel_rfl)
def run {R : Type} (k : Nat) (a0 : GV) (a1 : GV) (h : Heap) (fin : GV → Heap → Option R) : Option R := n0 k (fun x v4 h => kend x (fin v4 h)) a0 a1 h
theorem run_eq {R : Type} (k : Nat) (a0 : GV) (a1 : GV) (h : Heap) (fin : GV → Heap → Option R) : kfun PP cfg NN HH k fn.laws_eqTerm [a0, a1] h fin = run k a0 a1 h fin := (kfun_eq (nt := 97) (c := c0) (show PP.funcs[fn.laws_eqTerm]? = some Try.f17 by kernel_rfl) (by kernel_rfl) (by kernel_rfl) (fun x σ h => by cases x <;> kernel_rfl)).trans (n0_eq k (fun x v4 h => kend x (fin v4 h)) _ h)
theorem gives {k : Nat} {a0 : GV} {a1 : GV} {v : GV} (e : run k a0 a1 [] finN = some v) : NN fn.laws_eqTerm [a0, a1] = some v := nω_of (by kernel_rfl) ((run_eq k a0 a1 [] finN).trans e)
end S.laws_eqTerm
/-! laws_eqInt64S -/
namespace S.laws_eqInt64S
noncomputable def c0 : Code := bodyOf Try.f18
noncomputable def c1 : Code := cR c0
noncomputable def c2 : Code := cR c1
noncomputable def c3 : Code := cR c2
@[simp] def n3 {R : Type} (k : Nat) (G : KT1 R) (h : Heap) : Option R := G .ret (.bool true) h
theorem n3_eq (G : KT1 R) (σ : GS) (h : Heap) : KC k 26 c3 σ h (fun x σ h => G x (σ 4) h) = n3 k G h := by kernel_rfl
noncomputable def c4 : Code := cL c2
noncomputable def c5 : Code := cR c4
noncomputable def c6 : Code := cL c5
noncomputable def c7 : Code := cL c6
noncomputable def c8 : Code := cR c7
noncomputable def c9 : Code := cR c8
@[simp] def n9 {R : Type} (k : Nat) (G : KT4 R) (v0 v1 v4 v5 : GV) (h : Heap) : Option R := (kbin .add v5 (.int .i64 1)).bind fun v16 => G .nrm v0 v1 v4 v16 h
theorem n9_eq (G : KT4 R) (σ : GS) (h : Heap) : KC k 26 c9 σ h (fun x σ h => G x (σ 0) (σ 1) (σ 4) (σ 5) h) = n9 k G (σ 0) (σ 1) (σ 4) (σ 5) h := by kernel_rfl
noncomputable def c10 : Code := cL c8
noncomputable def c11 : Code := cL c10
@[simp] def n11 {R : Type} (k : Nat) (G : KT4 R) (v0 v1 v4 v5 : GV) (h : Heap) : Option R := (kia 1 v0 v5).bind fun v19 => (kload1 h v19).bind fun v20 => (kia 1 v1 v5).bind fun v23 => (kload1 h v23).bind fun v24 => (kbin .neq v20 v24).bind fun v25 => kcond v25 (G .ret v0 v1 (.bool false) v5 h) (G .nrm v0 v1 v4 v5 h)
theorem n11_eq (G : KT4 R) (σ : GS) (h : Heap) : KC k 26 c11 σ h (fun x σ h => G x (σ 0) (σ 1) (σ 4) (σ 5) h) = n11 k G (σ 0) (σ 1) (σ 4) (σ 5) h := by kernel_rfl
@[simp] def n10 (G : KT4 R) (v0 v1 v4 v5 : GV) (h : Heap) : Option R := n11 k (fun x v0 v1 v4 v5 h => kb 1 x fun x => G x v0 v1 v4 v5 h) v0 v1 v4 v5 h
theorem n10_eq (G : KT4 R) (σ : GS) (h : Heap) : KC k 26 c10 σ h (fun x σ h => G x (σ 0) (σ 1) (σ 4) (σ 5) h) = n10 k G (σ 0) (σ 1) (σ 4) (σ 5) h := (kblock_eq (a := c11) rfl).trans (n11_eq k (fun x v0 v1 v4 v5 h => kb 1 x fun x => G x v0 v1 v4 v5 h) σ h)
@[simp] def n8 (G : KT4 R) (v0 v1 v4 v5 : GV) (h : Heap) : Option R := n10 k (fun x v0 v1 v4 v5 h => kx x (n9 k G v0 v1 v4 v5 h) (G x v0 v1 v4 v5 h)) v0 v1 v4 v5 h
theorem n8_eq (G : KT4 R) (σ : GS) (h : Heap) : KC k 26 c8 σ h (fun x σ h => G x (σ 0) (σ 1) (σ 4) (σ 5) h) = n8 k G (σ 0) (σ 1) (σ 4) (σ 5) h := (kseq (b := c9) rfl (fun σ h => n9_eq k G σ h)).trans (n10_eq k (fun x v0 v1 v4 v5 h => kx x (n9 k G v0 v1 v4 v5 h) (G x v0 v1 v4 v5 h)) σ h)
noncomputable def c12 : Code := cL c7
@[simp] def n7 (G : KT4 R) (v0 v1 v4 v5 : GV) (h : Heap) : Option R := (klen v0).bind fun v13 => (kbin .lss v5 v13).bind fun v14 => kcond v14 (n8 k G v0 v1 v4 v5 h) (G (.ext 0) v0 v1 v4 v5 h)
theorem n7_eq (G : KT4 R) (σ : GS) (h : Heap) : KC k 26 c7 σ h (fun x σ h => G x (σ 0) (σ 1) (σ 4) (σ 5) h) = n7 k G (σ 0) (σ 1) (σ 4) (σ 5) h := (kseq (a := c12) (b := c8) rfl (fun σ h => n8_eq k G σ h)).trans (by kernel_rfl)
def l6 {R : Type} (k : Nat) (G : KT1 R) : Nat → GV → GV → GV → GV → Heap → Option R
  | 0, _, _, _, _, _ => none
  | r + 1, v0, v1, v4, v5, h => n7 k (fun x v0 v1 v4 v5 h => kx x (l6 k G r v0 v1 v4 v5 h) (G x v4 h)) v0 v1 v4 v5 h
theorem l6_eq {R : Type} (k : Nat) (G : KT1 R) : ∀ (r : Nat) (σ : GS) (h : Heap), kloop (fun σ h K => KC k 26 c7 σ h K) r σ h (fun x σ h => G x (σ 4) h) = l6 k G r (σ 0) (σ 1) (σ 4) (σ 5) h
  | 0, _, _ => rfl
  | r + 1, σ, h => (kloop_eq (fun σ h => l6_eq k G r σ h)).trans (n7_eq k (fun x v0 v1 v4 v5 h => kx x (l6 k G r v0 v1 v4 v5 h) (G x v4 h)) σ h)
@[simp] def n6 (G : KT1 R) (v0 v1 v4 v5 : GV) (h : Heap) : Option R := l6 k G k v0 v1 v4 v5 h
theorem n6_eq (G : KT1 R) (σ : GS) (h : Heap) : KC k 26 c6 σ h (fun x σ h => G x (σ 4) h) = n6 k G (σ 0) (σ 1) (σ 4) (σ 5) h := (kloopc_eq (a := c7) rfl).trans (l6_eq k G k σ h)
@[simp] def n5 (G : KT1 R) (v0 v1 v4 v5 : GV) (h : Heap) : Option R := n6 k (fun x v4 h => kb 0 x fun x => G x v4 h) v0 v1 v4 v5 h
theorem n5_eq (G : KT1 R) (σ : GS) (h : Heap) : KC k 26 c5 σ h (fun x σ h => G x (σ 4) h) = n5 k G (σ 0) (σ 1) (σ 4) (σ 5) h := (kblock_eq (a := c6) rfl).trans (n6_eq k (fun x v4 h => kb 0 x fun x => G x v4 h) σ h)
noncomputable def c13 : Code := cL c4
@[simp] def n4 (G : KT1 R) (v0 v1 v4 : GV) (h : Heap) : Option R := n5 k G v0 v1 v4 (.int .i64 0) h
theorem n4_eq (G : KT1 R) (σ : GS) (h : Heap) : KC k 26 c4 σ h (fun x σ h => G x (σ 4) h) = n4 k G (σ 0) (σ 1) (σ 4) h := (kseq (a := c13) (b := c5) rfl (fun σ h => n5_eq k G σ h)).trans (by kernel_rfl)
@[simp] def n2 (G : KT1 R) (v0 v1 v4 : GV) (h : Heap) : Option R := n4 k (fun x v4 h => kx x (n3 k G h) (G x v4 h)) v0 v1 v4 h
theorem n2_eq (G : KT1 R) (σ : GS) (h : Heap) : KC k 26 c2 σ h (fun x σ h => G x (σ 4) h) = n2 k G (σ 0) (σ 1) (σ 4) h := (kseq (b := c3) rfl (fun σ h => n3_eq k G σ h)).trans (n4_eq k (fun x v4 h => kx x (n3 k G h) (G x v4 h)) σ h)
noncomputable def c14 : Code := cL c1
@[simp] def n1 (G : KT1 R) (v0 v1 v4 : GV) (h : Heap) : Option R := (klen v0).bind fun v7 => (klen v1).bind fun v9 => (kbin .neq v7 v9).bind fun v10 => kcond v10 (G .ret (.bool false) h) (n2 k G v0 v1 v4 h)
theorem n1_eq (G : KT1 R) (σ : GS) (h : Heap) : KC k 26 c1 σ h (fun x σ h => G x (σ 4) h) = n1 k G (σ 0) (σ 1) (σ 4) h := (kseq (a := c14) (b := c2) rfl (fun σ h => n2_eq k G σ h)).trans (by kernel_rfl)
noncomputable def c15 : Code := cL c0
@[simp] def n0 (G : KT1 R) (v0 v1 : GV) (h : Heap) : Option R := n1 k G v0 v1 (.bool false) h
theorem n0_eq (G : KT1 R) (σ : GS) (h : Heap) : KC k 26 c0 σ h (fun x σ h => G x (σ 4) h) = n0 k G (σ 0) (σ 1) h := (kseq (a := c15) (b := c1) rfl (fun σ h => n1_eq k G σ h)).trans (by kernel_rfl)
def run {R : Type} (k : Nat) (a0 : GV) (a1 : GV) (h : Heap) (fin : GV → Heap → Option R) : Option R := n0 k (fun x v4 h => kend x (fin v4 h)) a0 a1 h
theorem run_eq {R : Type} (k : Nat) (a0 : GV) (a1 : GV) (h : Heap) (fin : GV → Heap → Option R) : kfun PP cfg NN HH k fn.laws_eqInt64S [a0, a1] h fin = run k a0 a1 h fin := (kfun_eq (nt := 26) (c := c0) (show PP.funcs[fn.laws_eqInt64S]? = some Try.f18 by kernel_rfl) (by kernel_rfl) (by kernel_rfl) (fun x σ h => by cases x <;> kernel_rfl)).trans (n0_eq k (fun x v4 h => kend x (fin v4 h)) _ h)
theorem gives {k : Nat} {a0 : GV} {a1 : GV} {v : GV} (e : run k a0 a1 [] finN = some v) : NN fn.laws_eqInt64S [a0, a1] = some v := nω_of (by kernel_rfl) ((run_eq k a0 a1 [] finN).trans e)
end S.laws_eqInt64S
/-! laws_markTerm -/
namespace S.laws_markTerm
noncomputable def c0 : Code := bodyOf Try.f19
@[simp] def n0 {R : Type} (k : Nat) (G : KT1 R) (v0 v1 : GV) (h : Heap) : Option R := kbox v0 h fun v2 h => (kfa 0 v2).bind fun v5 => (kloadA 2 h v5).bind fun v6 => (HH fn.laws_markGrid [v6, v1] h).bind fun r => kr r fun v8 h => (kfa 2 v2).bind fun v9 => (kloadA 2 h v9).bind fun v10 => (HH fn.laws_markGrid [v10, v8] h).bind fun r => kr r fun v12 h => (kfa 24 v2).bind fun v13 => (kload1 h v13).bind fun v14 => (HH fn.laws_markInt64S [v14, v12] h).bind fun r => kr r fun v16 h => (kfa 25 v2).bind fun v17 => (kloadA 4 h v17).bind fun v18 => (HH fn.laws_markParser [v18, v16] h).bind fun r => kr r fun v20 h => G .ret v20 h
theorem n0_eq (G : KT1 R) (σ : GS) (h : Heap) : KC k 22 c0 σ h (fun x σ h => G x (σ 4) h) = n0 k G (σ 0) (σ 1) h := by kernel_rfl
def run {R : Type} (k : Nat) (a0 : GV) (a1 : GV) (h : Heap) (fin : GV → Heap → Option R) : Option R := n0 k (fun x v4 h => kend x (fin v4 h)) a0 a1 h
theorem run_eq {R : Type} (k : Nat) (a0 : GV) (a1 : GV) (h : Heap) (fin : GV → Heap → Option R) : kfun PP cfg NN HH k fn.laws_markTerm [a0, a1] h fin = run k a0 a1 h fin := (kfun_eq (nt := 22) (c := c0) (show PP.funcs[fn.laws_markTerm]? = some Try.f19 by kernel_rfl) (by kernel_rfl) (by kernel_rfl) (fun x σ h => by cases x <;> kernel_rfl)).trans (n0_eq k (fun x v4 h => kend x (fin v4 h)) _ h)
theorem gives {k : Nat} {a0 : GV} {a1 : GV} {h : Heap} {r : GV × Heap} (e : run k a0 a1 h finH = some r) : HH fn.laws_markTerm [a0, a1] h = some r := kω_of ((run_eq k a0 a1 h finH).trans e)
end S.laws_markTerm
/-! laws_markInt64S -/
namespace S.laws_markInt64S
noncomputable def c0 : Code := bodyOf Try.f20
noncomputable def c1 : Code := cR c0
noncomputable def c2 : Code := cR c1
@[simp] def n2 {R : Type} (k : Nat) (G : KT1 R) (v1 : GV) (h : Heap) : Option R := G .ret v1 h
theorem n2_eq (G : KT1 R) (σ : GS) (h : Heap) : KC k 19 c2 σ h (fun x σ h => G x (σ 4) h) = n2 k G (σ 1) h := by kernel_rfl
noncomputable def c3 : Code := cL c1
noncomputable def c4 : Code := cR c3
noncomputable def c5 : Code := cL c4
noncomputable def c6 : Code := cL c5
noncomputable def c7 : Code := cR c6
noncomputable def c8 : Code := cR c7
@[simp] def n8 {R : Type} (k : Nat) (G : KT4 R) (v0 v1 v4 v5 : GV) (h : Heap) : Option R := (kbin .add v5 (.int .i64 1)).bind fun v11 => G .nrm v0 v1 v4 v11 h
theorem n8_eq (G : KT4 R) (σ : GS) (h : Heap) : KC k 19 c8 σ h (fun x σ h => G x (σ 0) (σ 1) (σ 4) (σ 5) h) = n8 k G (σ 0) (σ 1) (σ 4) (σ 5) h := by kernel_rfl
noncomputable def c9 : Code := cL c7
noncomputable def c10 : Code := cL c9
@[simp] def n10 {R : Type} (k : Nat) (G : KT4 R) (v0 v1 v4 v5 : GV) (h : Heap) : Option R := (kia 1 v0 v5).bind fun v15 => (kstore 1 h v15 v1).bind fun h => (kbin .add v1 (.int .i64 1)).bind fun v17 => G .nrm v0 v17 v4 v5 h
theorem n10_eq (G : KT4 R) (σ : GS) (h : Heap) : KC k 19 c10 σ h (fun x σ h => G x (σ 0) (σ 1) (σ 4) (σ 5) h) = n10 k G (σ 0) (σ 1) (σ 4) (σ 5) h := by kernel_rfl
@[simp] def n9 (G : KT4 R) (v0 v1 v4 v5 : GV) (h : Heap) : Option R := n10 k (fun x v0 v1 v4 v5 h => kb 1 x fun x => G x v0 v1 v4 v5 h) v0 v1 v4 v5 h
theorem n9_eq (G : KT4 R) (σ : GS) (h : Heap) : KC k 19 c9 σ h (fun x σ h => G x (σ 0) (σ 1) (σ 4) (σ 5) h) = n9 k G (σ 0) (σ 1) (σ 4) (σ 5) h := (kblock_eq (a := c10) rfl).trans (n10_eq k (fun x v0 v1 v4 v5 h => kb 1 x fun x => G x v0 v1 v4 v5 h) σ h)
@[simp] def n7 (G : KT4 R) (v0 v1 v4 v5 : GV) (h : Heap) : Option R := n9 k (fun x v0 v1 v4 v5 h => kx x (n8 k G v0 v1 v4 v5 h) (G x v0 v1 v4 v5 h)) v0 v1 v4 v5 h
theorem n7_eq (G : KT4 R) (σ : GS) (h : Heap) : KC k 19 c7 σ h (fun x σ h => G x (σ 0) (σ 1) (σ 4) (σ 5) h) = n7 k G (σ 0) (σ 1) (σ 4) (σ 5) h := (kseq (b := c8) rfl (fun σ h => n8_eq k G σ h)).trans (n9_eq k (fun x v0 v1 v4 v5 h => kx x (n8 k G v0 v1 v4 v5 h) (G x v0 v1 v4 v5 h)) σ h)
noncomputable def c11 : Code := cL c6
@[simp] def n6 (G : KT4 R) (v0 v1 v4 v5 : GV) (h : Heap) : Option R := (klen v0).bind fun v8 => (kbin .lss v5 v8).bind fun v9 => kcond v9 (n7 k G v0 v1 v4 v5 h) (G (.ext 0) v0 v1 v4 v5 h)
theorem n6_eq (G : KT4 R) (σ : GS) (h : Heap) : KC k 19 c6 σ h (fun x σ h => G x (σ 0) (σ 1) (σ 4) (σ 5) h) = n6 k G (σ 0) (σ 1) (σ 4) (σ 5) h := (kseq (a := c11) (b := c7) rfl (fun σ h => n7_eq k G σ h)).trans (by kernel_rfl)
def l5 {R : Type} (k : Nat) (G : KT2 R) : Nat → GV → GV → GV → GV → Heap → Option R
  | 0, _, _, _, _, _ => none
  | r + 1, v0, v1, v4, v5, h => n6 k (fun x v0 v1 v4 v5 h => kx x (l5 k G r v0 v1 v4 v5 h) (G x v1 v4 h)) v0 v1 v4 v5 h
theorem l5_eq {R : Type} (k : Nat) (G : KT2 R) : ∀ (r : Nat) (σ : GS) (h : Heap), kloop (fun σ h K => KC k 19 c6 σ h K) r σ h (fun x σ h => G x (σ 1) (σ 4) h) = l5 k G r (σ 0) (σ 1) (σ 4) (σ 5) h
  | 0, _, _ => rfl
  | r + 1, σ, h => (kloop_eq (fun σ h => l5_eq k G r σ h)).trans (n6_eq k (fun x v0 v1 v4 v5 h => kx x (l5 k G r v0 v1 v4 v5 h) (G x v1 v4 h)) σ h)
@[simp] def n5 (G : KT2 R) (v0 v1 v4 v5 : GV) (h : Heap) : Option R := l5 k G k v0 v1 v4 v5 h
theorem n5_eq (G : KT2 R) (σ : GS) (h : Heap) : KC k 19 c5 σ h (fun x σ h => G x (σ 1) (σ 4) h) = n5 k G (σ 0) (σ 1) (σ 4) (σ 5) h := (kloopc_eq (a := c6) rfl).trans (l5_eq k G k σ h)
@[simp] def n4 (G : KT2 R) (v0 v1 v4 v5 : GV) (h : Heap) : Option R := n5 k (fun x v1 v4 h => kb 0 x fun x => G x v1 v4 h) v0 v1 v4 v5 h
theorem n4_eq (G : KT2 R) (σ : GS) (h : Heap) : KC k 19 c4 σ h (fun x σ h => G x (σ 1) (σ 4) h) = n4 k G (σ 0) (σ 1) (σ 4) (σ 5) h := (kblock_eq (a := c5) rfl).trans (n5_eq k (fun x v1 v4 h => kb 0 x fun x => G x v1 v4 h) σ h)
noncomputable def c12 : Code := cL c3
@[simp] def n3 (G : KT2 R) (v0 v1 v4 : GV) (h : Heap) : Option R := n4 k G v0 v1 v4 (.int .i64 0) h
theorem n3_eq (G : KT2 R) (σ : GS) (h : Heap) : KC k 19 c3 σ h (fun x σ h => G x (σ 1) (σ 4) h) = n3 k G (σ 0) (σ 1) (σ 4) h := (kseq (a := c12) (b := c4) rfl (fun σ h => n4_eq k G σ h)).trans (by kernel_rfl)
@[simp] def n1 (G : KT1 R) (v0 v1 v4 : GV) (h : Heap) : Option R := n3 k (fun x v1 v4 h => kx x (n2 k G v1 h) (G x v4 h)) v0 v1 v4 h
theorem n1_eq (G : KT1 R) (σ : GS) (h : Heap) : KC k 19 c1 σ h (fun x σ h => G x (σ 4) h) = n1 k G (σ 0) (σ 1) (σ 4) h := (kseq (b := c2) rfl (fun σ h => n2_eq k G σ h)).trans (n3_eq k (fun x v1 v4 h => kx x (n2 k G v1 h) (G x v4 h)) σ h)
noncomputable def c13 : Code := cL c0
@[simp] def n0 (G : KT1 R) (v0 v1 : GV) (h : Heap) : Option R := n1 k G v0 v1 (.int .i64 0) h
theorem n0_eq (G : KT1 R) (σ : GS) (h : Heap) : KC k 19 c0 σ h (fun x σ h => G x (σ 4) h) = n0 k G (σ 0) (σ 1) h := (kseq (a := c13) (b := c1) rfl (fun σ h => n1_eq k G σ h)).trans (by kernel_rfl)
def run {R : Type} (k : Nat) (a0 : GV) (a1 : GV) (h : Heap) (fin : GV → Heap → Option R) : Option R := n0 k (fun x v4 h => kend x (fin v4 h)) a0 a1 h
theorem run_eq {R : Type} (k : Nat) (a0 : GV) (a1 : GV) (h : Heap) (fin : GV → Heap → Option R) : kfun PP cfg NN HH k fn.laws_markInt64S [a0, a1] h fin = run k a0 a1 h fin := (kfun_eq (nt := 19) (c := c0) (show PP.funcs[fn.laws_markInt64S]? = some Try.f20 by kernel_rfl) (by kernel_rfl) (by kernel_rfl) (fun x σ h => by cases x <;> kernel_rfl)).trans (n0_eq k (fun x v4 h => kend x (fin v4 h)) _ h)
theorem gives {k : Nat} {a0 : GV} {a1 : GV} {h : Heap} {r : GV × Heap} (e : run k a0 a1 h finH = some r) : HH fn.laws_markInt64S [a0, a1] h = some r := kω_of ((run_eq k a0 a1 h finH).trans e)
end S.laws_markInt64S
/-! laws_heldTerm -/
namespace S.laws_heldTerm
noncomputable def c0 : Code := bodyOf Try.f21
@[simp] def n0 {R : Type} (k : Nat) (G : KT1 R) (v0 v1 : GV) (h : Heap) : Option R := kbox v0 h fun v2 h => (kfa 0 v2).bind fun v5 => (kloadA 2 h v5).bind fun v6 => (kN NN fn.laws_heldGrid [v6, v1] h).bind fun v8 => (kbin .lss v8 (.int .i64 0)).bind fun v10 => kcond v10 (G .ret (.int .i64 (-1)) h) ((kfa 2 v2).bind fun v11 => (kloadA 2 h v11).bind fun v12 => (kN NN fn.laws_heldGrid [v12, v8] h).bind fun v14 => (kbin .lss v14 (.int .i64 0)).bind fun v16 => kcond v16 (G .ret (.int .i64 (-1)) h) ((kfa 24 v2).bind fun v17 => (kload1 h v17).bind fun v18 => (kN NN fn.laws_heldInt64S [v18, v14] h).bind fun v20 => (kbin .lss v20 (.int .i64 0)).bind fun v22 => kcond v22 (G .ret (.int .i64 (-1)) h) ((kfa 25 v2).bind fun v23 => (kloadA 4 h v23).bind fun v24 => (kN NN fn.laws_heldParser [v24, v20] h).bind fun v26 => (kbin .lss v26 (.int .i64 0)).bind fun v28 => kcond v28 (G .ret (.int .i64 (-1)) h) (G .ret v26 h))))
theorem n0_eq (G : KT1 R) (σ : GS) (h : Heap) : KC k 30 c0 σ h (fun x σ h => G x (σ 4) h) = n0 k G (σ 0) (σ 1) h := by kernel_rfl
def run {R : Type} (k : Nat) (a0 : GV) (a1 : GV) (h : Heap) (fin : GV → Heap → Option R) : Option R := n0 k (fun x v4 h => kend x (fin v4 h)) a0 a1 h
theorem run_eq {R : Type} (k : Nat) (a0 : GV) (a1 : GV) (h : Heap) (fin : GV → Heap → Option R) : kfun PP cfg NN HH k fn.laws_heldTerm [a0, a1] h fin = run k a0 a1 h fin := (kfun_eq (nt := 30) (c := c0) (show PP.funcs[fn.laws_heldTerm]? = some Try.f21 by kernel_rfl) (by kernel_rfl) (by kernel_rfl) (fun x σ h => by cases x <;> kernel_rfl)).trans (n0_eq k (fun x v4 h => kend x (fin v4 h)) _ h)
theorem gives {k : Nat} {a0 : GV} {a1 : GV} {v : GV} (e : run k a0 a1 [] finN = some v) : NN fn.laws_heldTerm [a0, a1] = some v := nω_of (by kernel_rfl) ((run_eq k a0 a1 [] finN).trans e)
end S.laws_heldTerm
/-! laws_heldInt64S -/
namespace S.laws_heldInt64S
noncomputable def c0 : Code := bodyOf Try.f22
noncomputable def c1 : Code := cR c0
noncomputable def c2 : Code := cR c1
@[simp] def n2 {R : Type} (k : Nat) (G : KT1 R) (v1 : GV) (h : Heap) : Option R := G .ret v1 h
theorem n2_eq (G : KT1 R) (σ : GS) (h : Heap) : KC k 21 c2 σ h (fun x σ h => G x (σ 4) h) = n2 k G (σ 1) h := by kernel_rfl
noncomputable def c3 : Code := cL c1
noncomputable def c4 : Code := cR c3
noncomputable def c5 : Code := cL c4
noncomputable def c6 : Code := cL c5
noncomputable def c7 : Code := cR c6
noncomputable def c8 : Code := cR c7
@[simp] def n8 {R : Type} (k : Nat) (G : KT4 R) (v0 v1 v4 v5 : GV) (h : Heap) : Option R := (kbin .add v5 (.int .i64 1)).bind fun v11 => G .nrm v0 v1 v4 v11 h
theorem n8_eq (G : KT4 R) (σ : GS) (h : Heap) : KC k 21 c8 σ h (fun x σ h => G x (σ 0) (σ 1) (σ 4) (σ 5) h) = n8 k G (σ 0) (σ 1) (σ 4) (σ 5) h := by kernel_rfl
noncomputable def c9 : Code := cL c7
noncomputable def c10 : Code := cL c9
@[simp] def n10 {R : Type} (k : Nat) (G : KT4 R) (v0 v1 v4 v5 : GV) (h : Heap) : Option R := (kia 1 v0 v5).bind fun v14 => (kload1 h v14).bind fun v15 => (kbin .neq v15 v1).bind fun v17 => kcond v17 (G .ret v0 v1 (.int .i64 (-1)) v5 h) ((kbin .add v1 (.int .i64 1)).bind fun v19 => G .nrm v0 v19 v4 v5 h)
theorem n10_eq (G : KT4 R) (σ : GS) (h : Heap) : KC k 21 c10 σ h (fun x σ h => G x (σ 0) (σ 1) (σ 4) (σ 5) h) = n10 k G (σ 0) (σ 1) (σ 4) (σ 5) h := by kernel_rfl
@[simp] def n9 (G : KT4 R) (v0 v1 v4 v5 : GV) (h : Heap) : Option R := n10 k (fun x v0 v1 v4 v5 h => kb 1 x fun x => G x v0 v1 v4 v5 h) v0 v1 v4 v5 h
theorem n9_eq (G : KT4 R) (σ : GS) (h : Heap) : KC k 21 c9 σ h (fun x σ h => G x (σ 0) (σ 1) (σ 4) (σ 5) h) = n9 k G (σ 0) (σ 1) (σ 4) (σ 5) h := (kblock_eq (a := c10) rfl).trans (n10_eq k (fun x v0 v1 v4 v5 h => kb 1 x fun x => G x v0 v1 v4 v5 h) σ h)
@[simp] def n7 (G : KT4 R) (v0 v1 v4 v5 : GV) (h : Heap) : Option R := n9 k (fun x v0 v1 v4 v5 h => kx x (n8 k G v0 v1 v4 v5 h) (G x v0 v1 v4 v5 h)) v0 v1 v4 v5 h
theorem n7_eq (G : KT4 R) (σ : GS) (h : Heap) : KC k 21 c7 σ h (fun x σ h => G x (σ 0) (σ 1) (σ 4) (σ 5) h) = n7 k G (σ 0) (σ 1) (σ 4) (σ 5) h := (kseq (b := c8) rfl (fun σ h => n8_eq k G σ h)).trans (n9_eq k (fun x v0 v1 v4 v5 h => kx x (n8 k G v0 v1 v4 v5 h) (G x v0 v1 v4 v5 h)) σ h)
noncomputable def c11 : Code := cL c6
@[simp] def n6 (G : KT4 R) (v0 v1 v4 v5 : GV) (h : Heap) : Option R := (klen v0).bind fun v8 => (kbin .lss v5 v8).bind fun v9 => kcond v9 (n7 k G v0 v1 v4 v5 h) (G (.ext 0) v0 v1 v4 v5 h)
theorem n6_eq (G : KT4 R) (σ : GS) (h : Heap) : KC k 21 c6 σ h (fun x σ h => G x (σ 0) (σ 1) (σ 4) (σ 5) h) = n6 k G (σ 0) (σ 1) (σ 4) (σ 5) h := (kseq (a := c11) (b := c7) rfl (fun σ h => n7_eq k G σ h)).trans (by kernel_rfl)
def l5 {R : Type} (k : Nat) (G : KT2 R) : Nat → GV → GV → GV → GV → Heap → Option R
  | 0, _, _, _, _, _ => none
  | r + 1, v0, v1, v4, v5, h => n6 k (fun x v0 v1 v4 v5 h => kx x (l5 k G r v0 v1 v4 v5 h) (G x v1 v4 h)) v0 v1 v4 v5 h
theorem l5_eq {R : Type} (k : Nat) (G : KT2 R) : ∀ (r : Nat) (σ : GS) (h : Heap), kloop (fun σ h K => KC k 21 c6 σ h K) r σ h (fun x σ h => G x (σ 1) (σ 4) h) = l5 k G r (σ 0) (σ 1) (σ 4) (σ 5) h
  | 0, _, _ => rfl
  | r + 1, σ, h => (kloop_eq (fun σ h => l5_eq k G r σ h)).trans (n6_eq k (fun x v0 v1 v4 v5 h => kx x (l5 k G r v0 v1 v4 v5 h) (G x v1 v4 h)) σ h)
@[simp] def n5 (G : KT2 R) (v0 v1 v4 v5 : GV) (h : Heap) : Option R := l5 k G k v0 v1 v4 v5 h
theorem n5_eq (G : KT2 R) (σ : GS) (h : Heap) : KC k 21 c5 σ h (fun x σ h => G x (σ 1) (σ 4) h) = n5 k G (σ 0) (σ 1) (σ 4) (σ 5) h := (kloopc_eq (a := c6) rfl).trans (l5_eq k G k σ h)
@[simp] def n4 (G : KT2 R) (v0 v1 v4 v5 : GV) (h : Heap) : Option R := n5 k (fun x v1 v4 h => kb 0 x fun x => G x v1 v4 h) v0 v1 v4 v5 h
theorem n4_eq (G : KT2 R) (σ : GS) (h : Heap) : KC k 21 c4 σ h (fun x σ h => G x (σ 1) (σ 4) h) = n4 k G (σ 0) (σ 1) (σ 4) (σ 5) h := (kblock_eq (a := c5) rfl).trans (n5_eq k (fun x v1 v4 h => kb 0 x fun x => G x v1 v4 h) σ h)
noncomputable def c12 : Code := cL c3
@[simp] def n3 (G : KT2 R) (v0 v1 v4 : GV) (h : Heap) : Option R := n4 k G v0 v1 v4 (.int .i64 0) h
theorem n3_eq (G : KT2 R) (σ : GS) (h : Heap) : KC k 21 c3 σ h (fun x σ h => G x (σ 1) (σ 4) h) = n3 k G (σ 0) (σ 1) (σ 4) h := (kseq (a := c12) (b := c4) rfl (fun σ h => n4_eq k G σ h)).trans (by kernel_rfl)
@[simp] def n1 (G : KT1 R) (v0 v1 v4 : GV) (h : Heap) : Option R := n3 k (fun x v1 v4 h => kx x (n2 k G v1 h) (G x v4 h)) v0 v1 v4 h
theorem n1_eq (G : KT1 R) (σ : GS) (h : Heap) : KC k 21 c1 σ h (fun x σ h => G x (σ 4) h) = n1 k G (σ 0) (σ 1) (σ 4) h := (kseq (b := c2) rfl (fun σ h => n2_eq k G σ h)).trans (n3_eq k (fun x v1 v4 h => kx x (n2 k G v1 h) (G x v4 h)) σ h)
noncomputable def c13 : Code := cL c0
@[simp] def n0 (G : KT1 R) (v0 v1 : GV) (h : Heap) : Option R := n1 k G v0 v1 (.int .i64 0) h
theorem n0_eq (G : KT1 R) (σ : GS) (h : Heap) : KC k 21 c0 σ h (fun x σ h => G x (σ 4) h) = n0 k G (σ 0) (σ 1) h := (kseq (a := c13) (b := c1) rfl (fun σ h => n1_eq k G σ h)).trans (by kernel_rfl)
def run {R : Type} (k : Nat) (a0 : GV) (a1 : GV) (h : Heap) (fin : GV → Heap → Option R) : Option R := n0 k (fun x v4 h => kend x (fin v4 h)) a0 a1 h
theorem run_eq {R : Type} (k : Nat) (a0 : GV) (a1 : GV) (h : Heap) (fin : GV → Heap → Option R) : kfun PP cfg NN HH k fn.laws_heldInt64S [a0, a1] h fin = run k a0 a1 h fin := (kfun_eq (nt := 21) (c := c0) (show PP.funcs[fn.laws_heldInt64S]? = some Try.f22 by kernel_rfl) (by kernel_rfl) (by kernel_rfl) (fun x σ h => by cases x <;> kernel_rfl)).trans (n0_eq k (fun x v4 h => kend x (fin v4 h)) _ h)
theorem gives {k : Nat} {a0 : GV} {a1 : GV} {v : GV} (e : run k a0 a1 [] finN = some v) : NN fn.laws_heldInt64S [a0, a1] = some v := nω_of (by kernel_rfl) ((run_eq k a0 a1 [] finN).trans e)
end S.laws_heldInt64S
/-! laws_eqGrid -/
namespace S.laws_eqGrid
noncomputable def c0 : Code := bodyOf Try.f43
@[simp] def n0 {R : Type} (k : Nat) (G : KT1 R) (v0 v1 : GV) (h : Heap) : Option R := kbox v0 h fun v2 h => kbox v1 h fun v3 h => (kfa 0 v2).bind fun v5 => (kload1 h v5).bind fun v6 => (kfa 0 v3).bind fun v7 => (kload1 h v7).bind fun v8 => (kbin .neq v6 v8).bind fun v9 => kcond v9 (G .ret (.bool false) h) ((kfa 1 v2).bind fun v10 => (kload1 h v10).bind fun v11 => (kfa 1 v3).bind fun v12 => (kload1 h v12).bind fun v13 => (kN NN fn.laws_eqCellSS [v11, v13] h).bind fun v14 => (kun .not v14).bind fun v15 => kcond v15 (G .ret (.bool false) h) (G .ret (.bool true) h))
theorem n0_eq (G : KT1 R) (σ : GS) (h : Heap) : KC k 16 c0 σ h (fun x σ h => G x (σ 4) h) = n0 k G (σ 0) (σ 1) h := by kernel_rfl
def run {R : Type} (k : Nat) (a0 : GV) (a1 : GV) (h : Heap) (fin : GV → Heap → Option R) : Option R := n0 k (fun x v4 h => kend x (fin v4 h)) a0 a1 h
theorem run_eq {R : Type} (k : Nat) (a0 : GV) (a1 : GV) (h : Heap) (fin : GV → Heap → Option R) : kfun PP cfg NN HH k fn.laws_eqGrid [a0, a1] h fin = run k a0 a1 h fin := (kfun_eq (nt := 16) (c := c0) (show PP.funcs[fn.laws_eqGrid]? = some Try.f43 by kernel_rfl) (by kernel_rfl) (by kernel_rfl) (fun x σ h => by cases x <;> kernel_rfl)).trans (n0_eq k (fun x v4 h => kend x (fin v4 h)) _ h)
theorem gives {k : Nat} {a0 : GV} {a1 : GV} {v : GV} (e : run k a0 a1 [] finN = some v) : NN fn.laws_eqGrid [a0, a1] = some v := nω_of (by kernel_rfl) ((run_eq k a0 a1 [] finN).trans e)
end S.laws_eqGrid
/-! laws_eqStyle -/
namespace S.laws_eqStyle
noncomputable def c0 : Code := bodyOf Try.f44
@[simp] def n0 {R : Type} (k : Nat) (G : KT1 R) (v0 v1 : GV) (h : Heap) : Option R := kbox v0 h fun v2 h => kbox v1 h fun v3 h => (kfa 0 v2).bind fun v5 => (kload1 h v5).bind fun v6 => (kfa 0 v3).bind fun v7 => (kload1 h v7).bind fun v8 => (kbin .neq v6 v8).bind fun v9 => kcond v9 (G .ret (.bool false) h) ((kfa 1 v2).bind fun v10 => (kload1 h v10).bind fun v11 => (kfa 1 v3).bind fun v12 => (kload1 h v12).bind fun v13 => (kbin .neq v11 v13).bind fun v14 => kcond v14 (G .ret (.bool false) h) ((kfa 2 v2).bind fun v15 => (kload1 h v15).bind fun v16 => (kfa 2 v3).bind fun v17 => (kload1 h v17).bind fun v18 => (keqB .neq v16 v18).bind fun v19 => kcond v19 (G .ret (.bool false) h) ((kfa 3 v2).bind fun v20 => (kload1 h v20).bind fun v21 => (kfa 3 v3).bind fun v22 => (kload1 h v22).bind fun v23 => (keqB .neq v21 v23).bind fun v24 => kcond v24 (G .ret (.bool false) h) ((kfa 4 v2).bind fun v25 => (kload1 h v25).bind fun v26 => (kfa 4 v3).bind fun v27 => (kload1 h v27).bind fun v28 => (keqB .neq v26 v28).bind fun v29 => kcond v29 (G .ret (.bool false) h) (G .ret (.bool true) h)))))
theorem n0_eq (G : KT1 R) (σ : GS) (h : Heap) : KC k 30 c0 σ h (fun x σ h => G x (σ 4) h) = n0 k G (σ 0) (σ 1) h := by kernel_rfl
def run {R : Type} (k : Nat) (a0 : GV) (a1 : GV) (h : Heap) (fin : GV → Heap → Option R) : Option R := n0 k (fun x v4 h => kend x (fin v4 h)) a0 a1 h
theorem run_eq {R : Type} (k : Nat) (a0 : GV) (a1 : GV) (h : Heap) (fin : GV → Heap → Option R) : kfun PP cfg NN HH k fn.laws_eqStyle [a0, a1] h fin = run k a0 a1 h fin := (kfun_eq (nt := 30) (c := c0) (show PP.funcs[fn.laws_eqStyle]? = some Try.f44 by kernel_rfl) (by kernel_rfl) (by kernel_rfl) (fun x σ h => by cases x <;> kernel_rfl)).trans (n0_eq k (fun x v4 h => kend x (fin v4 h)) _ h)
theorem gives {k : Nat} {a0 : GV} {a1 : GV} {v : GV} (e : run k a0 a1 [] finN = some v) : NN fn.laws_eqStyle [a0, a1] = some v := nω_of (by kernel_rfl) ((run_eq k a0 a1 [] finN).trans e)
end S.laws_eqStyle
/-! laws_eqParser -/
namespace S.laws_eqParser
noncomputable def c0 : Code := bodyOf Try.f45
@[simp] def n0 {R : Type} (k : Nat) (G : KT1 R) (v0 v1 : GV) (h : Heap) : Option R := kbox v0 h fun v2 h => kbox v1 h fun v3 h => (kfa 0 v2).bind fun v5 => (kload1 h v5).bind fun v6 => (kfa 0 v3).bind fun v7 => (kload1 h v7).bind fun v8 => (kbin .neq v6 v8).bind fun v9 => kcond v9 (G .ret (.bool false) h) ((kfa 1 v2).bind fun v10 => (kload1 h v10).bind fun v11 => (kfa 1 v3).bind fun v12 => (kload1 h v12).bind fun v13 => (kN NN fn.laws_eqInt64S [v11, v13] h).bind fun v14 => (kun .not v14).bind fun v15 => kcond v15 (G .ret (.bool false) h) ((kfa 2 v2).bind fun v16 => (kload1 h v16).bind fun v17 => (kfa 2 v3).bind fun v18 => (kload1 h v18).bind fun v19 => (kbin .neq v17 v19).bind fun v20 => kcond v20 (G .ret (.bool false) h) ((kfa 3 v2).bind fun v21 => (kload1 h v21).bind fun v22 => (kfa 3 v3).bind fun v23 => (kload1 h v23).bind fun v24 => (kN NN fn.laws_eqInt64S [v22, v24] h).bind fun v25 => (kun .not v25).bind fun v26 => kcond v26 (G .ret (.bool false) h) (G .ret (.bool true) h))))
theorem n0_eq (G : KT1 R) (σ : GS) (h : Heap) : KC k 27 c0 σ h (fun x σ h => G x (σ 4) h) = n0 k G (σ 0) (σ 1) h := by kernel_rfl
def run {R : Type} (k : Nat) (a0 : GV) (a1 : GV) (h : Heap) (fin : GV → Heap → Option R) : Option R := n0 k (fun x v4 h => kend x (fin v4 h)) a0 a1 h
theorem run_eq {R : Type} (k : Nat) (a0 : GV) (a1 : GV) (h : Heap) (fin : GV → Heap → Option R) : kfun PP cfg NN HH k fn.laws_eqParser [a0, a1] h fin = run k a0 a1 h fin := (kfun_eq (nt := 27) (c := c0) (show PP.funcs[fn.laws_eqParser]? = some Try.f45 by kernel_rfl) (by kernel_rfl) (by kernel_rfl) (fun x σ h => by cases x <;> kernel_rfl)).trans (n0_eq k (fun x v4 h => kend x (fin v4 h)) _ h)
theorem gives {k : Nat} {a0 : GV} {a1 : GV} {v : GV} (e : run k a0 a1 [] finN = some v) : NN fn.laws_eqParser [a0, a1] = some v := nω_of (by kernel_rfl) ((run_eq k a0 a1 [] finN).trans e)
end S.laws_eqParser
/-! laws_eqFeeder -/
namespace S.laws_eqFeeder
noncomputable def c0 : Code := bodyOf Try.f46
@[simp] def n0 {R : Type} (k : Nat) (G : KT1 R) (v0 v1 : GV) (h : Heap) : Option R := kbox v0 h fun v2 h => kbox v1 h fun v3 h => (kfa 0 v2).bind fun v5 => (kload1 h v5).bind fun v6 => (kfa 0 v3).bind fun v7 => (kload1 h v7).bind fun v8 => (kbin .neq v6 v8).bind fun v9 => kcond v9 (G .ret (.bool false) h) (G .ret (.bool true) h)
theorem n0_eq (G : KT1 R) (σ : GS) (h : Heap) : KC k 10 c0 σ h (fun x σ h => G x (σ 4) h) = n0 k G (σ 0) (σ 1) h := by kernel_rfl
def run {R : Type} (k : Nat) (a0 : GV) (a1 : GV) (h : Heap) (fin : GV → Heap → Option R) : Option R := n0 k (fun x v4 h => kend x (fin v4 h)) a0 a1 h
theorem run_eq {R : Type} (k : Nat) (a0 : GV) (a1 : GV) (h : Heap) (fin : GV → Heap → Option R) : kfun PP cfg NN HH k fn.laws_eqFeeder [a0, a1] h fin = run k a0 a1 h fin := (kfun_eq (nt := 10) (c := c0) (show PP.funcs[fn.laws_eqFeeder]? = some Try.f46 by kernel_rfl) (by kernel_rfl) (by kernel_rfl) (fun x σ h => by cases x <;> kernel_rfl)).trans (n0_eq k (fun x v4 h => kend x (fin v4 h)) _ h)
theorem gives {k : Nat} {a0 : GV} {a1 : GV} {v : GV} (e : run k a0 a1 [] finN = some v) : NN fn.laws_eqFeeder [a0, a1] = some v := nω_of (by kernel_rfl) ((run_eq k a0 a1 [] finN).trans e)
end S.laws_eqFeeder
/-! laws_markGrid -/
namespace S.laws_markGrid
noncomputable def c0 : Code := bodyOf Try.f47
@[simp] def n0 {R : Type} (k : Nat) (G : KT1 R) (v0 v1 : GV) (h : Heap) : Option R := kbox v0 h fun v2 h => (kfa 1 v2).bind fun v5 => (kload1 h v5).bind fun v6 => (HH fn.laws_markCellSS [v6, v1] h).bind fun r => kr r fun v8 h => G .ret v8 h
theorem n0_eq (G : KT1 R) (σ : GS) (h : Heap) : KC k 10 c0 σ h (fun x σ h => G x (σ 4) h) = n0 k G (σ 0) (σ 1) h := by kernel_rfl
def run {R : Type} (k : Nat) (a0 : GV) (a1 : GV) (h : Heap) (fin : GV → Heap → Option R) : Option R := n0 k (fun x v4 h => kend x (fin v4 h)) a0 a1 h
theorem run_eq {R : Type} (k : Nat) (a0 : GV) (a1 : GV) (h : Heap) (fin : GV → Heap → Option R) : kfun PP cfg NN HH k fn.laws_markGrid [a0, a1] h fin = run k a0 a1 h fin := (kfun_eq (nt := 10) (c := c0) (show PP.funcs[fn.laws_markGrid]? = some Try.f47 by kernel_rfl) (by kernel_rfl) (by kernel_rfl) (fun x σ h => by cases x <;> kernel_rfl)).trans (n0_eq k (fun x v4 h => kend x (fin v4 h)) _ h)
theorem gives {k : Nat} {a0 : GV} {a1 : GV} {h : Heap} {r : GV × Heap} (e : run k a0 a1 h finH = some r) : HH fn.laws_markGrid [a0, a1] h = some r := kω_of ((run_eq k a0 a1 h finH).trans e)
end S.laws_markGrid
/-! laws_markParser -/
namespace S.laws_markParser
noncomputable def c0 : Code := bodyOf Try.f48
@[simp] def n0 {R : Type} (k : Nat) (G : KT1 R) (v0 v1 : GV) (h : Heap) : Option R := kbox v0 h fun v2 h => (kfa 1 v2).bind fun v5 => (kload1 h v5).bind fun v6 => (HH fn.laws_markInt64S [v6, v1] h).bind fun r => kr r fun v8 h => (kfa 3 v2).bind fun v9 => (kload1 h v9).bind fun v10 => (HH fn.laws_markInt64S [v10, v8] h).bind fun r => kr r fun v12 h => G .ret v12 h
theorem n0_eq (G : KT1 R) (σ : GS) (h : Heap) : KC k 14 c0 σ h (fun x σ h => G x (σ 4) h) = n0 k G (σ 0) (σ 1) h := by kernel_rfl
def run {R : Type} (k : Nat) (a0 : GV) (a1 : GV) (h : Heap) (fin : GV → Heap → Option R) : Option R := n0 k (fun x v4 h => kend x (fin v4 h)) a0 a1 h
theorem run_eq {R : Type} (k : Nat) (a0 : GV) (a1 : GV) (h : Heap) (fin : GV → Heap → Option R) : kfun PP cfg NN HH k fn.laws_markParser [a0, a1] h fin = run k a0 a1 h fin := (kfun_eq (nt := 14) (c := c0) (show PP.funcs[fn.laws_markParser]? = some Try.f48 by kernel_rfl) (by kernel_rfl) (by kernel_rfl) (fun x σ h => by cases x <;> kernel_rfl)).trans (n0_eq k (fun x v4 h => kend x (fin v4 h)) _ h)
theorem gives {k : Nat} {a0 : GV} {a1 : GV} {h : Heap} {r : GV × Heap} (e : run k a0 a1 h finH = some r) : HH fn.laws_markParser [a0, a1] h = some r := kω_of ((run_eq k a0 a1 h finH).trans e)
end S.laws_markParser
/-! laws_heldGrid -/
namespace S.laws_heldGrid
noncomputable def c0 : Code := bodyOf Try.f49
@[simp] def n0 {R : Type} (k : Nat) (G : KT1 R) (v0 v1 : GV) (h : Heap) : Option R := kbox v0 h fun v2 h => (kfa 1 v2).bind fun v5 => (kload1 h v5).bind fun v6 => (kN NN fn.laws_heldCellSS [v6, v1] h).bind fun v8 => (kbin .lss v8 (.int .i64 0)).bind fun v10 => kcond v10 (G .ret (.int .i64 (-1)) h) (G .ret v8 h)
theorem n0_eq (G : KT1 R) (σ : GS) (h : Heap) : KC k 12 c0 σ h (fun x σ h => G x (σ 4) h) = n0 k G (σ 0) (σ 1) h := by kernel_rfl
def run {R : Type} (k : Nat) (a0 : GV) (a1 : GV) (h : Heap) (fin : GV → Heap → Option R) : Option R := n0 k (fun x v4 h => kend x (fin v4 h)) a0 a1 h
theorem run_eq {R : Type} (k : Nat) (a0 : GV) (a1 : GV) (h : Heap) (fin : GV → Heap → Option R) : kfun PP cfg NN HH k fn.laws_heldGrid [a0, a1] h fin = run k a0 a1 h fin := (kfun_eq (nt := 12) (c := c0) (show PP.funcs[fn.laws_heldGrid]? = some Try.f49 by kernel_rfl) (by kernel_rfl) (by kernel_rfl) (fun x σ h => by cases x <;> kernel_rfl)).trans (n0_eq k (fun x v4 h => kend x (fin v4 h)) _ h)
theorem gives {k : Nat} {a0 : GV} {a1 : GV} {v : GV} (e : run k a0 a1 [] finN = some v) : NN fn.laws_heldGrid [a0, a1] = some v := nω_of (by kernel_rfl) ((run_eq k a0 a1 [] finN).trans e)
end S.laws_heldGrid
/-! laws_heldParser -/
namespace S.laws_heldParser
noncomputable def c0 : Code := bodyOf Try.f50
@[simp] def n0 {R : Type} (k : Nat) (G : KT1 R) (v0 v1 : GV) (h : Heap) : Option R := kbox v0 h fun v2 h => (kfa 1 v2).bind fun v5 => (kload1 h v5).bind fun v6 => (kN NN fn.laws_heldInt64S [v6, v1] h).bind fun v8 => (kbin .lss v8 (.int .i64 0)).bind fun v10 => kcond v10 (G .ret (.int .i64 (-1)) h) ((kfa 3 v2).bind fun v11 => (kload1 h v11).bind fun v12 => (kN NN fn.laws_heldInt64S [v12, v8] h).bind fun v14 => (kbin .lss v14 (.int .i64 0)).bind fun v16 => kcond v16 (G .ret (.int .i64 (-1)) h) (G .ret v14 h))
theorem n0_eq (G : KT1 R) (σ : GS) (h : Heap) : KC k 18 c0 σ h (fun x σ h => G x (σ 4) h) = n0 k G (σ 0) (σ 1) h := by kernel_rfl
def run {R : Type} (k : Nat) (a0 : GV) (a1 : GV) (h : Heap) (fin : GV → Heap → Option R) : Option R := n0 k (fun x v4 h => kend x (fin v4 h)) a0 a1 h
theorem run_eq {R : Type} (k : Nat) (a0 : GV) (a1 : GV) (h : Heap) (fin : GV → Heap → Option R) : kfun PP cfg NN HH k fn.laws_heldParser [a0, a1] h fin = run k a0 a1 h fin := (kfun_eq (nt := 18) (c := c0) (show PP.funcs[fn.laws_heldParser]? = some Try.f50 by kernel_rfl) (by kernel_rfl) (by kernel_rfl) (fun x σ h => by cases x <;> kernel_rfl)).trans (n0_eq k (fun x v4 h => kend x (fin v4 h)) _ h)
theorem gives {k : Nat} {a0 : GV} {a1 : GV} {v : GV} (e : run k a0 a1 [] finN = some v) : NN fn.laws_heldParser [a0, a1] = some v := nω_of (by kernel_rfl) ((run_eq k a0 a1 [] finN).trans e)
end S.laws_heldParser
/-! laws_markCellSS -/
namespace S.laws_markCellSS
noncomputable def c0 : Code := bodyOf Try.f61
noncomputable def c1 : Code := cR c0
noncomputable def c2 : Code := cR c1
@[simp] def n2 {R : Type} (k : Nat) (G : KT1 R) (v1 : GV) (h : Heap) : Option R := G .ret v1 h
theorem n2_eq (G : KT1 R) (σ : GS) (h : Heap) : KC k 19 c2 σ h (fun x σ h => G x (σ 4) h) = n2 k G (σ 1) h := by kernel_rfl
noncomputable def c3 : Code := cL c1
noncomputable def c4 : Code := cR c3
noncomputable def c5 : Code := cL c4
noncomputable def c6 : Code := cL c5
noncomputable def c7 : Code := cR c6
noncomputable def c8 : Code := cR c7
@[simp] def n8 {R : Type} (k : Nat) (G : KT4 R) (v0 v1 v4 v5 : GV) (h : Heap) : Option R := (kbin .add v5 (.int .i64 1)).bind fun v11 => G .nrm v0 v1 v4 v11 h
theorem n8_eq (G : KT4 R) (σ : GS) (h : Heap) : KC k 19 c8 σ h (fun x σ h => G x (σ 0) (σ 1) (σ 4) (σ 5) h) = n8 k G (σ 0) (σ 1) (σ 4) (σ 5) h := by kernel_rfl
noncomputable def c9 : Code := cL c7
noncomputable def c10 : Code := cL c9
@[simp] def n10 {R : Type} (k : Nat) (G : KT4 R) (v0 v1 v4 v5 : GV) (h : Heap) : Option R := (kia 1 v0 v5).bind fun v14 => (kload1 h v14).bind fun v15 => (HH fn.laws_markCellS [v15, v1] h).bind fun r => kr r fun v17 h => G .nrm v0 v17 v4 v5 h
theorem n10_eq (G : KT4 R) (σ : GS) (h : Heap) : KC k 19 c10 σ h (fun x σ h => G x (σ 0) (σ 1) (σ 4) (σ 5) h) = n10 k G (σ 0) (σ 1) (σ 4) (σ 5) h := by kernel_rfl
@[simp] def n9 (G : KT4 R) (v0 v1 v4 v5 : GV) (h : Heap) : Option R := n10 k (fun x v0 v1 v4 v5 h => kb 1 x fun x => G x v0 v1 v4 v5 h) v0 v1 v4 v5 h
theorem n9_eq (G : KT4 R) (σ : GS) (h : Heap) : KC k 19 c9 σ h (fun x σ h => G x (σ 0) (σ 1) (σ 4) (σ 5) h) = n9 k G (σ 0) (σ 1) (σ 4) (σ 5) h := (kblock_eq (a := c10) rfl).trans (n10_eq k (fun x v0 v1 v4 v5 h => kb 1 x fun x => G x v0 v1 v4 v5 h) σ h)
@[simp] def n7 (G : KT4 R) (v0 v1 v4 v5 : GV) (h : Heap) : Option R := n9 k (fun x v0 v1 v4 v5 h => kx x (n8 k G v0 v1 v4 v5 h) (G x v0 v1 v4 v5 h)) v0 v1 v4 v5 h
theorem n7_eq (G : KT4 R) (σ : GS) (h : Heap) : KC k 19 c7 σ h (fun x σ h => G x (σ 0) (σ 1) (σ 4) (σ 5) h) = n7 k G (σ 0) (σ 1) (σ 4) (σ 5) h := (kseq (b := c8) rfl (fun σ h => n8_eq k G σ h)).trans (n9_eq k (fun x v0 v1 v4 v5 h => kx x (n8 k G v0 v1 v4 v5 h) (G x v0 v1 v4 v5 h)) σ h)
noncomputable def c11 : Code := cL c6
@[simp] def n6 (G : KT4 R) (v0 v1 v4 v5 : GV) (h : Heap) : Option R := (klen v0).bind fun v8 => (kbin .lss v5 v8).bind fun v9 => kcond v9 (n7 k G v0 v1 v4 v5 h) (G (.ext 0) v0 v1 v4 v5 h)
theorem n6_eq (G : KT4 R) (σ : GS) (h : Heap) : KC k 19 c6 σ h (fun x σ h => G x (σ 0) (σ 1) (σ 4) (σ 5) h) = n6 k G (σ 0) (σ 1) (σ 4) (σ 5) h := (kseq (a := c11) (b := c7) rfl (fun σ h => n7_eq k G σ h)).trans (by kernel_rfl)
def l5 {R : Type} (k : Nat) (G : KT2 R) : Nat → GV → GV → GV → GV → Heap → Option R
  | 0, _, _, _, _, _ => none
  | r + 1, v0, v1, v4, v5, h => n6 k (fun x v0 v1 v4 v5 h => kx x (l5 k G r v0 v1 v4 v5 h) (G x v1 v4 h)) v0 v1 v4 v5 h
theorem l5_eq {R : Type} (k : Nat) (G : KT2 R) : ∀ (r : Nat) (σ : GS) (h : Heap), kloop (fun σ h K => KC k 19 c6 σ h K) r σ h (fun x σ h => G x (σ 1) (σ 4) h) = l5 k G r (σ 0) (σ 1) (σ 4) (σ 5) h
  | 0, _, _ => rfl
  | r + 1, σ, h => (kloop_eq (fun σ h => l5_eq k G r σ h)).trans (n6_eq k (fun x v0 v1 v4 v5 h => kx x (l5 k G r v0 v1 v4 v5 h) (G x v1 v4 h)) σ h)
@[simp] def n5 (G : KT2 R) (v0 v1 v4 v5 : GV) (h : Heap) : Option R := l5 k G k v0 v1 v4 v5 h
theorem n5_eq (G : KT2 R) (σ : GS) (h : Heap) : KC k 19 c5 σ h (fun x σ h => G x (σ 1) (σ 4) h) = n5 k G (σ 0) (σ 1) (σ 4) (σ 5) h := (kloopc_eq (a := c6) rfl).trans (l5_eq k G k σ h)
@[simp] def n4 (G : KT2 R) (v0 v1 v4 v5 : GV) (h : Heap) : Option R := n5 k (fun x v1 v4 h => kb 0 x fun x => G x v1 v4 h) v0 v1 v4 v5 h
theorem n4_eq (G : KT2 R) (σ : GS) (h : Heap) : KC k 19 c4 σ h (fun x σ h => G x (σ 1) (σ 4) h) = n4 k G (σ 0) (σ 1) (σ 4) (σ 5) h := (kblock_eq (a := c5) rfl).trans (n5_eq k (fun x v1 v4 h => kb 0 x fun x => G x v1 v4 h) σ h)
noncomputable def c12 : Code := cL c3
@[simp] def n3 (G : KT2 R) (v0 v1 v4 : GV) (h : Heap) : Option R := n4 k G v0 v1 v4 (.int .i64 0) h
theorem n3_eq (G : KT2 R) (σ : GS) (h : Heap) : KC k 19 c3 σ h (fun x σ h => G x (σ 1) (σ 4) h) = n3 k G (σ 0) (σ 1) (σ 4) h := (kseq (a := c12) (b := c4) rfl (fun σ h => n4_eq k G σ h)).trans (by kernel_rfl)
@[simp] def n1 (G : KT1 R) (v0 v1 v4 : GV) (h : Heap) : Option R := n3 k (fun x v1 v4 h => kx x (n2 k G v1 h) (G x v4 h)) v0 v1 v4 h
theorem n1_eq (G : KT1 R) (σ : GS) (h : Heap) : KC k 19 c1 σ h (fun x σ h => G x (σ 4) h) = n1 k G (σ 0) (σ 1) (σ 4) h := (kseq (b := c2) rfl (fun σ h => n2_eq k G σ h)).trans (n3_eq k (fun x v1 v4 h => kx x (n2 k G v1 h) (G x v4 h)) σ h)
noncomputable def c13 : Code := cL c0
@[simp] def n0 (G : KT1 R) (v0 v1 : GV) (h : Heap) : Option R := n1 k G v0 v1 (.int .i64 0) h
theorem n0_eq (G : KT1 R) (σ : GS) (h : Heap) : KC k 19 c0 σ h (fun x σ h => G x (σ 4) h) = n0 k G (σ 0) (σ 1) h := (kseq (a := c13) (b := c1) rfl (fun σ h => n1_eq k G σ h)).trans (by kernel_rfl)
def run {R : Type} (k : Nat) (a0 : GV) (a1 : GV) (h : Heap) (fin : GV → Heap → Option R) : Option R := n0 k (fun x v4 h => kend x (fin v4 h)) a0 a1 h
theorem run_eq {R : Type} (k : Nat) (a0 : GV) (a1 : GV) (h : Heap) (fin : GV → Heap → Option R) : kfun PP cfg NN HH k fn.laws_markCellSS [a0, a1] h fin = run k a0 a1 h fin := (kfun_eq (nt := 19) (c := c0) (show PP.funcs[fn.laws_markCellSS]? = some Try.f61 by kernel_rfl) (by kernel_rfl) (by kernel_rfl) (fun x σ h => by cases x <;> kernel_rfl)).trans (n0_eq k (fun x v4 h => kend x (fin v4 h)) _ h)
theorem gives {k : Nat} {a0 : GV} {a1 : GV} {h : Heap} {r : GV × Heap} (e : run k a0 a1 h finH = some r) : HH fn.laws_markCellSS [a0, a1] h = some r := kω_of ((run_eq k a0 a1 h finH).trans e)
end S.laws_markCellSS
/-! laws_heldCellSS -/
namespace S.laws_heldCellSS
noncomputable def c0 : Code := bodyOf Try.f66
noncomputable def c1 : Code := cR c0
noncomputable def c2 : Code := cR c1
@[simp] def n2 {R : Type} (k : Nat) (G : KT1 R) (v1 : GV) (h : Heap) : Option R := G .ret v1 h
theorem n2_eq (G : KT1 R) (σ : GS) (h : Heap) : KC k 21 c2 σ h (fun x σ h => G x (σ 4) h) = n2 k G (σ 1) h := by kernel_rfl
noncomputable def c3 : Code := cL c1
noncomputable def c4 : Code := cR c3
noncomputable def c5 : Code := cL c4
noncomputable def c6 : Code := cL c5
noncomputable def c7 : Code := cR c6
noncomputable def c8 : Code := cR c7
@[simp] def n8 {R : Type} (k : Nat) (G : KT4 R) (v0 v1 v4 v5 : GV) (h : Heap) : Option R := (kbin .add v5 (.int .i64 1)).bind fun v11 => G .nrm v0 v1 v4 v11 h
theorem n8_eq (G : KT4 R) (σ : GS) (h : Heap) : KC k 21 c8 σ h (fun x σ h => G x (σ 0) (σ 1) (σ 4) (σ 5) h) = n8 k G (σ 0) (σ 1) (σ 4) (σ 5) h := by kernel_rfl
noncomputable def c9 : Code := cL c7
noncomputable def c10 : Code := cL c9
@[simp] def n10 {R : Type} (k : Nat) (G : KT4 R) (v0 v1 v4 v5 : GV) (h : Heap) : Option R := (kia 1 v0 v5).bind fun v14 => (kload1 h v14).bind fun v15 => (kN NN fn.laws_heldCellS [v15, v1] h).bind fun v17 => (kbin .lss v17 (.int .i64 0)).bind fun v19 => kcond v19 (G .ret v0 v17 (.int .i64 (-1)) v5 h) (G .nrm v0 v17 v4 v5 h)
theorem n10_eq (G : KT4 R) (σ : GS) (h : Heap) : KC k 21 c10 σ h (fun x σ h => G x (σ 0) (σ 1) (σ 4) (σ 5) h) = n10 k G (σ 0) (σ 1) (σ 4) (σ 5) h := by kernel_rfl
@[simp] def n9 (G : KT4 R) (v0 v1 v4 v5 : GV) (h : Heap) : Option R := n10 k (fun x v0 v1 v4 v5 h => kb 1 x fun x => G x v0 v1 v4 v5 h) v0 v1 v4 v5 h
theorem n9_eq (G : KT4 R) (σ : GS) (h : Heap) : KC k 21 c9 σ h (fun x σ h => G x (σ 0) (σ 1) (σ 4) (σ 5) h) = n9 k G (σ 0) (σ 1) (σ 4) (σ 5) h := (kblock_eq (a := c10) rfl).trans (n10_eq k (fun x v0 v1 v4 v5 h => kb 1 x fun x => G x v0 v1 v4 v5 h) σ h)
@[simp] def n7 (G : KT4 R) (v0 v1 v4 v5 : GV) (h : Heap) : Option R := n9 k (fun x v0 v1 v4 v5 h => kx x (n8 k G v0 v1 v4 v5 h) (G x v0 v1 v4 v5 h)) v0 v1 v4 v5 h
theorem n7_eq (G : KT4 R) (σ : GS) (h : Heap) : KC k 21 c7 σ h (fun x σ h => G x (σ 0) (σ 1) (σ 4) (σ 5) h) = n7 k G (σ 0) (σ 1) (σ 4) (σ 5) h := (kseq (b := c8) rfl (fun σ h => n8_eq k G σ h)).trans (n9_eq k (fun x v0 v1 v4 v5 h => kx x (n8 k G v0 v1 v4 v5 h) (G x v0 v1 v4 v5 h)) σ h)
noncomputable def c11 : Code := cL c6
@[simp] def n6 (G : KT4 R) (v0 v1 v4 v5 : GV) (h : Heap) : Option R := (klen v0).bind fun v8 => (kbin .lss v5 v8).bind fun v9 => kcond v9 (n7 k G v0 v1 v4 v5 h) (G (.ext 0) v0 v1 v4 v5 h)
theorem n6_eq (G : KT4 R) (σ : GS) (h : Heap) : KC k 21 c6 σ h (fun x σ h => G x (σ 0) (σ 1) (σ 4) (σ 5) h) = n6 k G (σ 0) (σ 1) (σ 4) (σ 5) h := (kseq (a := c11) (b := c7) rfl (fun σ h => n7_eq k G σ h)).trans (by kernel_rfl)
def l5 {R : Type} (k : Nat) (G : KT2 R) : Nat → GV → GV → GV → GV → Heap → Option R
  | 0, _, _, _, _, _ => none
  | r + 1, v0, v1, v4, v5, h => n6 k (fun x v0 v1 v4 v5 h => kx x (l5 k G r v0 v1 v4 v5 h) (G x v1 v4 h)) v0 v1 v4 v5 h
theorem l5_eq {R : Type} (k : Nat) (G : KT2 R) : ∀ (r : Nat) (σ : GS) (h : Heap), kloop (fun σ h K => KC k 21 c6 σ h K) r σ h (fun x σ h => G x (σ 1) (σ 4) h) = l5 k G r (σ 0) (σ 1) (σ 4) (σ 5) h
  | 0, _, _ => rfl
  | r + 1, σ, h => (kloop_eq (fun σ h => l5_eq k G r σ h)).trans (n6_eq k (fun x v0 v1 v4 v5 h => kx x (l5 k G r v0 v1 v4 v5 h) (G x v1 v4 h)) σ h)
@[simp] def n5 (G : KT2 R) (v0 v1 v4 v5 : GV) (h : Heap) : Option R := l5 k G k v0 v1 v4 v5 h
theorem n5_eq (G : KT2 R) (σ : GS) (h : Heap) : KC k 21 c5 σ h (fun x σ h => G x (σ 1) (σ 4) h) = n5 k G (σ 0) (σ 1) (σ 4) (σ 5) h := (kloopc_eq (a := c6) rfl).trans (l5_eq k G k σ h)
@[simp] def n4 (G : KT2 R) (v0 v1 v4 v5 : GV) (h : Heap) : Option R := n5 k (fun x v1 v4 h => kb 0 x fun x => G x v1 v4 h) v0 v1 v4 v5 h
theorem n4_eq (G : KT2 R) (σ : GS) (h : Heap) : KC k 21 c4 σ h (fun x σ h => G x (σ 1) (σ 4) h) = n4 k G (σ 0) (σ 1) (σ 4) (σ 5) h := (kblock_eq (a := c5) rfl).trans (n5_eq k (fun x v1 v4 h => kb 0 x fun x => G x v1 v4 h) σ h)
noncomputable def c12 : Code := cL c3
@[simp] def n3 (G : KT2 R) (v0 v1 v4 : GV) (h : Heap) : Option R := n4 k G v0 v1 v4 (.int .i64 0) h
theorem n3_eq (G : KT2 R) (σ : GS) (h : Heap) : KC k 21 c3 σ h (fun x σ h => G x (σ 1) (σ 4) h) = n3 k G (σ 0) (σ 1) (σ 4) h := (kseq (a := c12) (b := c4) rfl (fun σ h => n4_eq k G σ h)).trans (by kernel_rfl)
@[simp] def n1 (G : KT1 R) (v0 v1 v4 : GV) (h : Heap) : Option R := n3 k (fun x v1 v4 h => kx x (n2 k G v1 h) (G x v4 h)) v0 v1 v4 h
theorem n1_eq (G : KT1 R) (σ : GS) (h : Heap) : KC k 21 c1 σ h (fun x σ h => G x (σ 4) h) = n1 k G (σ 0) (σ 1) (σ 4) h := (kseq (b := c2) rfl (fun σ h => n2_eq k G σ h)).trans (n3_eq k (fun x v1 v4 h => kx x (n2 k G v1 h) (G x v4 h)) σ h)
noncomputable def c13 : Code := cL c0
@[simp] def n0 (G : KT1 R) (v0 v1 : GV) (h : Heap) : Option R := n1 k G v0 v1 (.int .i64 0) h
theorem n0_eq (G : KT1 R) (σ : GS) (h : Heap) : KC k 21 c0 σ h (fun x σ h => G x (σ 4) h) = n0 k G (σ 0) (σ 1) h := (kseq (a := c13) (b := c1) rfl (fun σ h => n1_eq k G σ h)).trans (by kernel_rfl)
def run {R : Type} (k : Nat) (a0 : GV) (a1 : GV) (h : Heap) (fin : GV → Heap → Option R) : Option R := n0 k (fun x v4 h => kend x (fin v4 h)) a0 a1 h
theorem run_eq {R : Type} (k : Nat) (a0 : GV) (a1 : GV) (h : Heap) (fin : GV → Heap → Option R) : kfun PP cfg NN HH k fn.laws_heldCellSS [a0, a1] h fin = run k a0 a1 h fin := (kfun_eq (nt := 21) (c := c0) (show PP.funcs[fn.laws_heldCellSS]? = some Try.f66 by kernel_rfl) (by kernel_rfl) (by kernel_rfl) (fun x σ h => by cases x <;> kernel_rfl)).trans (n0_eq k (fun x v4 h => kend x (fin v4 h)) _ h)
theorem gives {k : Nat} {a0 : GV} {a1 : GV} {v : GV} (e : run k a0 a1 [] finN = some v) : NN fn.laws_heldCellSS [a0, a1] = some v := nω_of (by kernel_rfl) ((run_eq k a0 a1 [] finN).trans e)
end S.laws_heldCellSS
/-! laws_eqCellSS -/
namespace S.laws_eqCellSS
noncomputable def c0 : Code := bodyOf Try.f70
noncomputable def c1 : Code := cR c0
noncomputable def c2 : Code := cR c1
noncomputable def c3 : Code := cR c2
@[simp] def n3 {R : Type} (k : Nat) (G : KT1 R) (h : Heap) : Option R := G .ret (.bool true) h
theorem n3_eq (G : KT1 R) (σ : GS) (h : Heap) : KC k 27 c3 σ h (fun x σ h => G x (σ 4) h) = n3 k G h := by kernel_rfl
noncomputable def c4 : Code := cL c2
noncomputable def c5 : Code := cR c4
noncomputable def c6 : Code := cL c5
noncomputable def c7 : Code := cL c6
noncomputable def c8 : Code := cR c7
noncomputable def c9 : Code := cR c8
@[simp] def n9 {R : Type} (k : Nat) (G : KT4 R) (v0 v1 v4 v5 : GV) (h : Heap) : Option R := (kbin .add v5 (.int .i64 1)).bind fun v16 => G .nrm v0 v1 v4 v16 h
theorem n9_eq (G : KT4 R) (σ : GS) (h : Heap) : KC k 27 c9 σ h (fun x σ h => G x (σ 0) (σ 1) (σ 4) (σ 5) h) = n9 k G (σ 0) (σ 1) (σ 4) (σ 5) h := by kernel_rfl
noncomputable def c10 : Code := cL c8
noncomputable def c11 : Code := cL c10
@[simp] def n11 {R : Type} (k : Nat) (G : KT4 R) (v0 v1 v4 v5 : GV) (h : Heap) : Option R := (kia 1 v0 v5).bind fun v19 => (kload1 h v19).bind fun v20 => (kia 1 v1 v5).bind fun v23 => (kload1 h v23).bind fun v24 => (kN NN fn.laws_eqCellS [v20, v24] h).bind fun v25 => (kun .not v25).bind fun v26 => kcond v26 (G .ret v0 v1 (.bool false) v5 h) (G .nrm v0 v1 v4 v5 h)
theorem n11_eq (G : KT4 R) (σ : GS) (h : Heap) : KC k 27 c11 σ h (fun x σ h => G x (σ 0) (σ 1) (σ 4) (σ 5) h) = n11 k G (σ 0) (σ 1) (σ 4) (σ 5) h := by kernel_rfl
@[simp] def n10 (G : KT4 R) (v0 v1 v4 v5 : GV) (h : Heap) : Option R := n11 k (fun x v0 v1 v4 v5 h => kb 1 x fun x => G x v0 v1 v4 v5 h) v0 v1 v4 v5 h
theorem n10_eq (G : KT4 R) (σ : GS) (h : Heap) : KC k 27 c10 σ h (fun x σ h => G x (σ 0) (σ 1) (σ 4) (σ 5) h) = n10 k G (σ 0) (σ 1) (σ 4) (σ 5) h := (kblock_eq (a := c11) rfl).trans (n11_eq k (fun x v0 v1 v4 v5 h => kb 1 x fun x => G x v0 v1 v4 v5 h) σ h)
@[simp] def n8 (G : KT4 R) (v0 v1 v4 v5 : GV) (h : Heap) : Option R := n10 k (fun x v0 v1 v4 v5 h => kx x (n9 k G v0 v1 v4 v5 h) (G x v0 v1 v4 v5 h)) v0 v1 v4 v5 h
theorem n8_eq (G : KT4 R) (σ : GS) (h : Heap) : KC k 27 c8 σ h (fun x σ h => G x (σ 0) (σ 1) (σ 4) (σ 5) h) = n8 k G (σ 0) (σ 1) (σ 4) (σ 5) h := (kseq (b := c9) rfl (fun σ h => n9_eq k G σ h)).trans (n10_eq k (fun x v0 v1 v4 v5 h => kx x (n9 k G v0 v1 v4 v5 h) (G x v0 v1 v4 v5 h)) σ h)
noncomputable def c12 : Code := cL c7
@[simp] def n7 (G : KT4 R) (v0 v1 v4 v5 : GV) (h : Heap) : Option R := (klen v0).bind fun v13 => (kbin .lss v5 v13).bind fun v14 => kcond v14 (n8 k G v0 v1 v4 v5 h) (G (.ext 0) v0 v1 v4 v5 h)
theorem n7_eq (G : KT4 R) (σ : GS) (h : Heap) : KC k 27 c7 σ h (fun x σ h => G x (σ 0) (σ 1) (σ 4) (σ 5) h) = n7 k G (σ 0) (σ 1) (σ 4) (σ 5) h := (kseq (a := c12) (b := c8) rfl (fun σ h => n8_eq k G σ h)).trans (by kernel_rfl)
def l6 {R : Type} (k : Nat) (G : KT1 R) : Nat → GV → GV → GV → GV → Heap → Option R
  | 0, _, _, _, _, _ => none
  | r + 1, v0, v1, v4, v5, h => n7 k (fun x v0 v1 v4 v5 h => kx x (l6 k G r v0 v1 v4 v5 h) (G x v4 h)) v0 v1 v4 v5 h
theorem l6_eq {R : Type} (k : Nat) (G : KT1 R) : ∀ (r : Nat) (σ : GS) (h : Heap), kloop (fun σ h K => KC k 27 c7 σ h K) r σ h (fun x σ h => G x (σ 4) h) = l6 k G r (σ 0) (σ 1) (σ 4) (σ 5) h
  | 0, _, _ => rfl
  | r + 1, σ, h => (kloop_eq (fun σ h => l6_eq k G r σ h)).trans (n7_eq k (fun x v0 v1 v4 v5 h => kx x (l6 k G r v0 v1 v4 v5 h) (G x v4 h)) σ h)
@[simp] def n6 (G : KT1 R) (v0 v1 v4 v5 : GV) (h : Heap) : Option R := l6 k G k v0 v1 v4 v5 h
theorem n6_eq (G : KT1 R) (σ : GS) (h : Heap) : KC k 27 c6 σ h (fun x σ h => G x (σ 4) h) = n6 k G (σ 0) (σ 1) (σ 4) (σ 5) h := (kloopc_eq (a := c7) rfl).trans (l6_eq k G k σ h)
@[simp] def n5 (G : KT1 R) (v0 v1 v4 v5 : GV) (h : Heap) : Option R := n6 k (fun x v4 h => kb 0 x fun x => G x v4 h) v0 v1 v4 v5 h
theorem n5_eq (G : KT1 R) (σ : GS) (h : Heap) : KC k 27 c5 σ h (fun x σ h => G x (σ 4) h) = n5 k G (σ 0) (σ 1) (σ 4) (σ 5) h := (kblock_eq (a := c6) rfl).trans (n6_eq k (fun x v4 h => kb 0 x fun x => G x v4 h) σ h)
noncomputable def c13 : Code := cL c4
@[simp] def n4 (G : KT1 R) (v0 v1 v4 : GV) (h : Heap) : Option R := n5 k G v0 v1 v4 (.int .i64 0) h
theorem n4_eq (G : KT1 R) (σ : GS) (h : Heap) : KC k 27 c4 σ h (fun x σ h => G x (σ 4) h) = n4 k G (σ 0) (σ 1) (σ 4) h := (kseq (a := c13) (b := c5) rfl (fun σ h => n5_eq k G σ h)).trans (by kernel_rfl)
@[simp] def n2 (G : KT1 R) (v0 v1 v4 : GV) (h : Heap) : Option R := n4 k (fun x v4 h => kx x (n3 k G h) (G x v4 h)) v0 v1 v4 h
theorem n2_eq (G : KT1 R) (σ : GS) (h : Heap) : KC k 27 c2 σ h (fun x σ h => G x (σ 4) h) = n2 k G (σ 0) (σ 1) (σ 4) h := (kseq (b := c3) rfl (fun σ h => n3_eq k G σ h)).trans (n4_eq k (fun x v4 h => kx x (n3 k G h) (G x v4 h)) σ h)
noncomputable def c14 : Code := cL c1
@[simp] def n1 (G : KT1 R) (v0 v1 v4 : GV) (h : Heap) : Option R := (klen v0).bind fun v7 => (klen v1).bind fun v9 => (kbin .neq v7 v9).bind fun v10 => kcond v10 (G .ret (.bool false) h) (n2 k G v0 v1 v4 h)
theorem n1_eq (G : KT1 R) (σ : GS) (h : Heap) : KC k 27 c1 σ h (fun x σ h => G x (σ 4) h) = n1 k G (σ 0) (σ 1) (σ 4) h := (kseq (a := c14) (b := c2) rfl (fun σ h => n2_eq k G σ h)).trans (by kernel_rfl)
noncomputable def c15 : Code := cL c0
@[simp] def n0 (G : KT1 R) (v0 v1 : GV) (h : Heap) : Option R := n1 k G v0 v1 (.bool false) h
theorem n0_eq (G : KT1 R) (σ : GS) (h : Heap) : KC k 27 c0 σ h (fun x σ h => G x (σ 4) h) = n0 k G (σ 0) (σ 1) h := (kseq (a := c15) (b := c1) rfl (fun σ h => n1_eq k G σ h)).trans (by kernel_rfl)
def run {R : Type} (k : Nat) (a0 : GV) (a1 : GV) (h : Heap) (fin : GV → Heap → Option R) : Option R := n0 k (fun x v4 h => kend x (fin v4 h)) a0 a1 h
theorem run_eq {R : Type} (k : Nat) (a0 : GV) (a1 : GV) (h : Heap) (fin : GV → Heap → Option R) : kfun PP cfg NN HH k fn.laws_eqCellSS [a0, a1] h fin = run k a0 a1 h fin := (kfun_eq (nt := 27) (c := c0) (show PP.funcs[fn.laws_eqCellSS]? = some Try.f70 by kernel_rfl) (by kernel_rfl) (by kernel_rfl) (fun x σ h => by cases x <;> kernel_rfl)).trans (n0_eq k (fun x v4 h => kend x (fin v4 h)) _ h)
theorem gives {k : Nat} {a0 : GV} {a1 : GV} {v : GV} (e : run k a0 a1 [] finN = some v) : NN fn.laws_eqCellSS [a0, a1] = some v := nω_of (by kernel_rfl) ((run_eq k a0 a1 [] finN).trans e)
end S.laws_eqCellSS
/-! laws_markCellS -/
namespace S.laws_markCellS
noncomputable def c0 : Code := bodyOf Try.f73
noncomputable def c1 : Code := cR c0
noncomputable def c2 : Code := cR c1
@[simp] def n2 {R : Type} (k : Nat) (G : KT1 R) (v1 : GV) (h : Heap) : Option R := G .ret v1 h
theorem n2_eq (G : KT1 R) (σ : GS) (h : Heap) : KC k 73 c2 σ h (fun x σ h => G x (σ 4) h) = n2 k G (σ 1) h := by kernel_rfl
noncomputable def c3 : Code := cL c1
noncomputable def c4 : Code := cR c3
noncomputable def c5 : Code := cL c4
noncomputable def c6 : Code := cL c5
noncomputable def c7 : Code := cR c6
noncomputable def c8 : Code := cR c7
@[simp] def n8 {R : Type} (k : Nat) (G : KT4 R) (v0 v1 v4 v5 : GV) (h : Heap) : Option R := (kbin .add v5 (.int .i64 1)).bind fun v11 => G .nrm v0 v1 v4 v11 h
theorem n8_eq (G : KT4 R) (σ : GS) (h : Heap) : KC k 73 c8 σ h (fun x σ h => G x (σ 0) (σ 1) (σ 4) (σ 5) h) = n8 k G (σ 0) (σ 1) (σ 4) (σ 5) h := by kernel_rfl
noncomputable def c9 : Code := cL c7
noncomputable def c10 : Code := cL c9
noncomputable def c11 : Code := cR c10
noncomputable def c12 : Code := cR c11
noncomputable def c13 : Code := cR c12
@[simp] def n13 {R : Type} (k : Nat) (G : KT4 R) (v0 v1 v4 v5 : GV) (h : Heap) : Option R := (kbin .add v1 (.int .i64 1)).bind fun v26 => (kia 7 v0 v5).bind fun v30 => (kfa 1 v30).bind fun v31 => (kfa 1 v31).bind fun v32 => (kstore 1 h v32 v26).bind fun h => (kbin .add v26 (.int .i64 1)).bind fun v34 => (kbin .rem v34 (.int .i64 3)).bind fun v38 => (kbin .eql v38 (.int .i64 0)).bind fun v39 => (kia 7 v0 v5).bind fun v40 => (kfa 1 v40).bind fun v41 => (kfa 2 v41).bind fun v42 => (kstore 1 h v42 v39).bind fun h => (kbin .add v34 (.int .i64 1)).bind fun v44 => (kbin .rem v44 (.int .i64 3)).bind fun v48 => (kbin .eql v48 (.int .i64 0)).bind fun v49 => (kia 7 v0 v5).bind fun v50 => (kfa 1 v50).bind fun v51 => (kfa 3 v51).bind fun v52 => (kstore 1 h v52 v49).bind fun h => (kbin .add v44 (.int .i64 1)).bind fun v54 => (kbin .rem v54 (.int .i64 3)).bind fun v58 => (kbin .eql v58 (.int .i64 0)).bind fun v59 => (kia 7 v0 v5).bind fun v60 => (kfa 1 v60).bind fun v61 => (kfa 4 v61).bind fun v62 => (kstore 1 h v62 v59).bind fun h => (kbin .add v54 (.int .i64 1)).bind fun v64 => (kia 7 v0 v5).bind fun v68 => (kfa 6 v68).bind fun v69 => (kstore 1 h v69 v64).bind fun h => (kbin .add v64 (.int .i64 1)).bind fun v71 => G .nrm v0 v71 v4 v5 h
theorem n13_eq (G : KT4 R) (σ : GS) (h : Heap) : KC k 73 c13 σ h (fun x σ h => G x (σ 0) (σ 1) (σ 4) (σ 5) h) = n13 k G (σ 0) (σ 1) (σ 4) (σ 5) h := by kernel_rfl
noncomputable def c14 : Code := cL c12
@[simp] def n12 (G : KT4 R) (v0 v1 v4 v5 : GV) (h : Heap) : Option R := (kia 7 v0 v5).bind fun v22 => (kfa 1 v22).bind fun v23 => (kfa 0 v23).bind fun v24 => (kstore 1 h v24 v1).bind fun h => n13 k G v0 v1 v4 v5 h
theorem n12_eq (G : KT4 R) (σ : GS) (h : Heap) : KC k 73 c12 σ h (fun x σ h => G x (σ 0) (σ 1) (σ 4) (σ 5) h) = n12 k G (σ 0) (σ 1) (σ 4) (σ 5) h := (kseq (a := c14) (b := c13) rfl (fun σ h => n13_eq k G σ h)).trans (by kernel_rfl)
noncomputable def c15 : Code := cL c11
@[simp] def n11 (G : KT4 R) (v0 v1 v4 v5 : GV) (h : Heap) : Option R := (kbin .add v1 (.int .i64 1)).bind fun v18 => n12 k G v0 v18 v4 v5 h
theorem n11_eq (G : KT4 R) (σ : GS) (h : Heap) : KC k 73 c11 σ h (fun x σ h => G x (σ 0) (σ 1) (σ 4) (σ 5) h) = n11 k G (σ 0) (σ 1) (σ 4) (σ 5) h := (kseq (a := c15) (b := c12) rfl (fun σ h => n12_eq k G σ h)).trans (by kernel_rfl)
noncomputable def c16 : Code := cL c10
@[simp] def n10 (G : KT4 R) (v0 v1 v4 v5 : GV) (h : Heap) : Option R := (kia 7 v0 v5).bind fun v15 => (kfa 0 v15).bind fun v16 => (kstore 1 h v16 v1).bind fun h => n11 k G v0 v1 v4 v5 h
theorem n10_eq (G : KT4 R) (σ : GS) (h : Heap) : KC k 73 c10 σ h (fun x σ h => G x (σ 0) (σ 1) (σ 4) (σ 5) h) = n10 k G (σ 0) (σ 1) (σ 4) (σ 5) h := (kseq (a := c16) (b := c11) rfl (fun σ h => n11_eq k G σ h)).trans (by kernel_rfl)
@[simp] def n9 (G : KT4 R) (v0 v1 v4 v5 : GV) (h : Heap) : Option R := n10 k (fun x v0 v1 v4 v5 h => kb 1 x fun x => G x v0 v1 v4 v5 h) v0 v1 v4 v5 h
theorem n9_eq (G : KT4 R) (σ : GS) (h : Heap) : KC k 73 c9 σ h (fun x σ h => G x (σ 0) (σ 1) (σ 4) (σ 5) h) = n9 k G (σ 0) (σ 1) (σ 4) (σ 5) h := (kblock_eq (a := c10) rfl).trans (n10_eq k (fun x v0 v1 v4 v5 h => kb 1 x fun x => G x v0 v1 v4 v5 h) σ h)
@[simp] def n7 (G : KT4 R) (v0 v1 v4 v5 : GV) (h : Heap) : Option R := n9 k (fun x v0 v1 v4 v5 h => kx x (n8 k G v0 v1 v4 v5 h) (G x v0 v1 v4 v5 h)) v0 v1 v4 v5 h
theorem n7_eq (G : KT4 R) (σ : GS) (h : Heap) : KC k 73 c7 σ h (fun x σ h => G x (σ 0) (σ 1) (σ 4) (σ 5) h) = n7 k G (σ 0) (σ 1) (σ 4) (σ 5) h := (kseq (b := c8) rfl (fun σ h => n8_eq k G σ h)).trans (n9_eq k (fun x v0 v1 v4 v5 h => kx x (n8 k G v0 v1 v4 v5 h) (G x v0 v1 v4 v5 h)) σ h)
noncomputable def c17 : Code := cL c6
@[simp] def n6 (G : KT4 R) (v0 v1 v4 v5 : GV) (h : Heap) : Option R := (klen v0).bind fun v8 => (kbin .lss v5 v8).bind fun v9 => kcond v9 (n7 k G v0 v1 v4 v5 h) (G (.ext 0) v0 v1 v4 v5 h)
theorem n6_eq (G : KT4 R) (σ : GS) (h : Heap) : KC k 73 c6 σ h (fun x σ h => G x (σ 0) (σ 1) (σ 4) (σ 5) h) = n6 k G (σ 0) (σ 1) (σ 4) (σ 5) h := (kseq (a := c17) (b := c7) rfl (fun σ h => n7_eq k G σ h)).trans (by kernel_rfl)
def l5 {R : Type} (k : Nat) (G : KT2 R) : Nat → GV → GV → GV → GV → Heap → Option R
  | 0, _, _, _, _, _ => none
  | r + 1, v0, v1, v4, v5, h => n6 k (fun x v0 v1 v4 v5 h => kx x (l5 k G r v0 v1 v4 v5 h) (G x v1 v4 h)) v0 v1 v4 v5 h
theorem l5_eq {R : Type} (k : Nat) (G : KT2 R) : ∀ (r : Nat) (σ : GS) (h : Heap), kloop (fun σ h K => KC k 73 c6 σ h K) r σ h (fun x σ h => G x (σ 1) (σ 4) h) = l5 k G r (σ 0) (σ 1) (σ 4) (σ 5) h
  | 0, _, _ => rfl
  | r + 1, σ, h => (kloop_eq (fun σ h => l5_eq k G r σ h)).trans (n6_eq k (fun x v0 v1 v4 v5 h => kx x (l5 k G r v0 v1 v4 v5 h) (G x v1 v4 h)) σ h)
@[simp] def n5 (G : KT2 R) (v0 v1 v4 v5 : GV) (h : Heap) : Option R := l5 k G k v0 v1 v4 v5 h
theorem n5_eq (G : KT2 R) (σ : GS) (h : Heap) : KC k 73 c5 σ h (fun x σ h => G x (σ 1) (σ 4) h) = n5 k G (σ 0) (σ 1) (σ 4) (σ 5) h := (kloopc_eq (a := c6) rfl).trans (l5_eq k G k σ h)
@[simp] def n4 (G : KT2 R) (v0 v1 v4 v5 : GV) (h : Heap) : Option R := n5 k (fun x v1 v4 h => kb 0 x fun x => G x v1 v4 h) v0 v1 v4 v5 h
theorem n4_eq (G : KT2 R) (σ : GS) (h : Heap) : KC k 73 c4 σ h (fun x σ h => G x (σ 1) (σ 4) h) = n4 k G (σ 0) (σ 1) (σ 4) (σ 5) h := (kblock_eq (a := c5) rfl).trans (n5_eq k (fun x v1 v4 h => kb 0 x fun x => G x v1 v4 h) σ h)
noncomputable def c18 : Code := cL c3
@[simp] def n3 (G : KT2 R) (v0 v1 v4 : GV) (h : Heap) : Option R := n4 k G v0 v1 v4 (.int .i64 0) h
theorem n3_eq (G : KT2 R) (σ : GS) (h : Heap) : KC k 73 c3 σ h (fun x σ h => G x (σ 1) (σ 4) h) = n3 k G (σ 0) (σ 1) (σ 4) h := (kseq (a := c18) (b := c4) rfl (fun σ h => n4_eq k G σ h)).trans (by kernel_rfl)
@[simp] def n1 (G : KT1 R) (v0 v1 v4 : GV) (h : Heap) : Option R := n3 k (fun x v1 v4 h => kx x (n2 k G v1 h) (G x v4 h)) v0 v1 v4 h
theorem n1_eq (G : KT1 R) (σ : GS) (h : Heap) : KC k 73 c1 σ h (fun x σ h => G x (σ 4) h) = n1 k G (σ 0) (σ 1) (σ 4) h := (kseq (b := c2) rfl (fun σ h => n2_eq k G σ h)).trans (n3_eq k (fun x v1 v4 h => kx x (n2 k G v1 h) (G x v4 h)) σ h)
noncomputable def c19 : Code := cL c0
@[simp] def n0 (G : KT1 R) (v0 v1 : GV) (h : Heap) : Option R := n1 k G v0 v1 (.int .i64 0) h
theorem n0_eq (G : KT1 R) (σ : GS) (h : Heap) : KC k 73 c0 σ h (fun x σ h => G x (σ 4) h) = n0 k G (σ 0) (σ 1) h := (kseq (a := c19) (b := c1) rfl (fun σ h => n1_eq k G σ h)).trans (by kernel_rfl)
def run {R : Type} (k : Nat) (a0 : GV) (a1 : GV) (h : Heap) (fin : GV → Heap → Option R) : Option R := n0 k (fun x v4 h => kend x (fin v4 h)) a0 a1 h
theorem run_eq {R : Type} (k : Nat) (a0 : GV) (a1 : GV) (h : Heap) (fin : GV → Heap → Option R) : kfun PP cfg NN HH k fn.laws_markCellS [a0, a1] h fin = run k a0 a1 h fin := (kfun_eq (nt := 73) (c := c0) (show PP.funcs[fn.laws_markCellS]? = some Try.f73 by kernel_rfl) (by kernel_rfl) (by kernel_rfl) (fun x σ h => by cases x <;> kernel_rfl)).trans (n0_eq k (fun x v4 h => kend x (fin v4 h)) _ h)
theorem gives {k : Nat} {a0 : GV} {a1 : GV} {h : Heap} {r : GV × Heap} (e : run k a0 a1 h finH = some r) : HH fn.laws_markCellS [a0, a1] h = some r := kω_of ((run_eq k a0 a1 h finH).trans e)
end S.laws_markCellS
/-! laws_heldCellS -/
namespace S.laws_heldCellS
noncomputable def c0 : Code := bodyOf Try.f74
noncomputable def c1 : Code := cR c0
noncomputable def c2 : Code := cR c1
@[simp] def n2 {R : Type} (k : Nat) (G : KT1 R) (v1 : GV) (h : Heap) : Option R := G .ret v1 h
theorem n2_eq (G : KT1 R) (σ : GS) (h : Heap) : KC k 87 c2 σ h (fun x σ h => G x (σ 4) h) = n2 k G (σ 1) h := by kernel_rfl
noncomputable def c3 : Code := cL c1
noncomputable def c4 : Code := cR c3
noncomputable def c5 : Code := cL c4
noncomputable def c6 : Code := cL c5
noncomputable def c7 : Code := cR c6
noncomputable def c8 : Code := cR c7
@[simp] def n8 {R : Type} (k : Nat) (G : KT4 R) (v0 v1 v4 v5 : GV) (h : Heap) : Option R := (kbin .add v5 (.int .i64 1)).bind fun v11 => G .nrm v0 v1 v4 v11 h
theorem n8_eq (G : KT4 R) (σ : GS) (h : Heap) : KC k 87 c8 σ h (fun x σ h => G x (σ 0) (σ 1) (σ 4) (σ 5) h) = n8 k G (σ 0) (σ 1) (σ 4) (σ 5) h := by kernel_rfl
noncomputable def c9 : Code := cL c7
noncomputable def c10 : Code := cL c9
noncomputable def c11 : Code := cR c10
noncomputable def c12 : Code := cR c11
noncomputable def c13 : Code := cR c12
noncomputable def c14 : Code := cR c13
noncomputable def c15 : Code := cR c14
noncomputable def c16 : Code := cR c15
noncomputable def c17 : Code := cR c16
@[simp] def n17 {R : Type} (k : Nat) (G : KT4 R) (v0 v1 v4 v5 : GV) (h : Heap) : Option R := (kbin .add v1 (.int .i64 1)).bind fun v52 => (kia 7 v0 v5).bind fun v55 => (kfa 1 v55).bind fun v56 => (kfa 3 v56).bind fun v57 => (kload1 h v57).bind fun v58 => (kbin .rem v52 (.int .i64 3)).bind fun v60 => (kbin .eql v60 (.int .i64 0)).bind fun v61 => (keqB .neq v58 v61).bind fun v62 => kcond v62 (G .ret v0 v52 (.int .i64 (-1)) v5 h) ((kbin .add v52 (.int .i64 1)).bind fun v64 => (kia 7 v0 v5).bind fun v67 => (kfa 1 v67).bind fun v68 => (kfa 4 v68).bind fun v69 => (kload1 h v69).bind fun v70 => (kbin .rem v64 (.int .i64 3)).bind fun v72 => (kbin .eql v72 (.int .i64 0)).bind fun v73 => (keqB .neq v70 v73).bind fun v74 => kcond v74 (G .ret v0 v64 (.int .i64 (-1)) v5 h) ((kbin .add v64 (.int .i64 1)).bind fun v76 => (kia 7 v0 v5).bind fun v79 => (kfa 6 v79).bind fun v80 => (kload1 h v80).bind fun v81 => (kbin .neq v81 v76).bind fun v83 => kcond v83 (G .ret v0 v76 (.int .i64 (-1)) v5 h) ((kbin .add v76 (.int .i64 1)).bind fun v85 => G .nrm v0 v85 v4 v5 h)))
theorem n17_eq (G : KT4 R) (σ : GS) (h : Heap) : KC k 87 c17 σ h (fun x σ h => G x (σ 0) (σ 1) (σ 4) (σ 5) h) = n17 k G (σ 0) (σ 1) (σ 4) (σ 5) h := by kernel_rfl
noncomputable def c18 : Code := cL c16
@[simp] def n16 (G : KT4 R) (v0 v1 v4 v5 : GV) (h : Heap) : Option R := (kia 7 v0 v5).bind fun v43 => (kfa 1 v43).bind fun v44 => (kfa 2 v44).bind fun v45 => (kload1 h v45).bind fun v46 => (kbin .rem v1 (.int .i64 3)).bind fun v48 => (kbin .eql v48 (.int .i64 0)).bind fun v49 => (keqB .neq v46 v49).bind fun v50 => kcond v50 (G .ret v0 v1 (.int .i64 (-1)) v5 h) (n17 k G v0 v1 v4 v5 h)
theorem n16_eq (G : KT4 R) (σ : GS) (h : Heap) : KC k 87 c16 σ h (fun x σ h => G x (σ 0) (σ 1) (σ 4) (σ 5) h) = n16 k G (σ 0) (σ 1) (σ 4) (σ 5) h := (kseq (a := c18) (b := c17) rfl (fun σ h => n17_eq k G σ h)).trans (by kernel_rfl)
noncomputable def c19 : Code := cL c15
@[simp] def n15 (G : KT4 R) (v0 v1 v4 v5 : GV) (h : Heap) : Option R := (kbin .add v1 (.int .i64 1)).bind fun v40 => n16 k G v0 v40 v4 v5 h
theorem n15_eq (G : KT4 R) (σ : GS) (h : Heap) : KC k 87 c15 σ h (fun x σ h => G x (σ 0) (σ 1) (σ 4) (σ 5) h) = n15 k G (σ 0) (σ 1) (σ 4) (σ 5) h := (kseq (a := c19) (b := c16) rfl (fun σ h => n16_eq k G σ h)).trans (by kernel_rfl)
noncomputable def c20 : Code := cL c14
@[simp] def n14 (G : KT4 R) (v0 v1 v4 v5 : GV) (h : Heap) : Option R := (kia 7 v0 v5).bind fun v33 => (kfa 1 v33).bind fun v34 => (kfa 1 v34).bind fun v35 => (kload1 h v35).bind fun v36 => (kbin .neq v36 v1).bind fun v38 => kcond v38 (G .ret v0 v1 (.int .i64 (-1)) v5 h) (n15 k G v0 v1 v4 v5 h)
theorem n14_eq (G : KT4 R) (σ : GS) (h : Heap) : KC k 87 c14 σ h (fun x σ h => G x (σ 0) (σ 1) (σ 4) (σ 5) h) = n14 k G (σ 0) (σ 1) (σ 4) (σ 5) h := (kseq (a := c20) (b := c15) rfl (fun σ h => n15_eq k G σ h)).trans (by kernel_rfl)
noncomputable def c21 : Code := cL c13
@[simp] def n13 (G : KT4 R) (v0 v1 v4 v5 : GV) (h : Heap) : Option R := (kbin .add v1 (.int .i64 1)).bind fun v30 => n14 k G v0 v30 v4 v5 h
theorem n13_eq (G : KT4 R) (σ : GS) (h : Heap) : KC k 87 c13 σ h (fun x σ h => G x (σ 0) (σ 1) (σ 4) (σ 5) h) = n13 k G (σ 0) (σ 1) (σ 4) (σ 5) h := (kseq (a := c21) (b := c14) rfl (fun σ h => n14_eq k G σ h)).trans (by kernel_rfl)
noncomputable def c22 : Code := cL c12
@[simp] def n12 (G : KT4 R) (v0 v1 v4 v5 : GV) (h : Heap) : Option R := (kia 7 v0 v5).bind fun v23 => (kfa 1 v23).bind fun v24 => (kfa 0 v24).bind fun v25 => (kload1 h v25).bind fun v26 => (kbin .neq v26 v1).bind fun v28 => kcond v28 (G .ret v0 v1 (.int .i64 (-1)) v5 h) (n13 k G v0 v1 v4 v5 h)
theorem n12_eq (G : KT4 R) (σ : GS) (h : Heap) : KC k 87 c12 σ h (fun x σ h => G x (σ 0) (σ 1) (σ 4) (σ 5) h) = n12 k G (σ 0) (σ 1) (σ 4) (σ 5) h := (kseq (a := c22) (b := c13) rfl (fun σ h => n13_eq k G σ h)).trans (by kernel_rfl)
noncomputable def c23 : Code := cL c11
@[simp] def n11 (G : KT4 R) (v0 v1 v4 v5 : GV) (h : Heap) : Option R := (kbin .add v1 (.int .i64 1)).bind fun v20 => n12 k G v0 v20 v4 v5 h
theorem n11_eq (G : KT4 R) (σ : GS) (h : Heap) : KC k 87 c11 σ h (fun x σ h => G x (σ 0) (σ 1) (σ 4) (σ 5) h) = n11 k G (σ 0) (σ 1) (σ 4) (σ 5) h := (kseq (a := c23) (b := c12) rfl (fun σ h => n12_eq k G σ h)).trans (by kernel_rfl)
noncomputable def c24 : Code := cL c10
@[simp] def n10 (G : KT4 R) (v0 v1 v4 v5 : GV) (h : Heap) : Option R := (kia 7 v0 v5).bind fun v14 => (kfa 0 v14).bind fun v15 => (kload1 h v15).bind fun v16 => (kbin .neq v16 v1).bind fun v18 => kcond v18 (G .ret v0 v1 (.int .i64 (-1)) v5 h) (n11 k G v0 v1 v4 v5 h)
theorem n10_eq (G : KT4 R) (σ : GS) (h : Heap) : KC k 87 c10 σ h (fun x σ h => G x (σ 0) (σ 1) (σ 4) (σ 5) h) = n10 k G (σ 0) (σ 1) (σ 4) (σ 5) h := (kseq (a := c24) (b := c11) rfl (fun σ h => n11_eq k G σ h)).trans (by kernel_rfl)
@[simp] def n9 (G : KT4 R) (v0 v1 v4 v5 : GV) (h : Heap) : Option R := n10 k (fun x v0 v1 v4 v5 h => kb 1 x fun x => G x v0 v1 v4 v5 h) v0 v1 v4 v5 h
theorem n9_eq (G : KT4 R) (σ : GS) (h : Heap) : KC k 87 c9 σ h (fun x σ h => G x (σ 0) (σ 1) (σ 4) (σ 5) h) = n9 k G (σ 0) (σ 1) (σ 4) (σ 5) h := (kblock_eq (a := c10) rfl).trans (n10_eq k (fun x v0 v1 v4 v5 h => kb 1 x fun x => G x v0 v1 v4 v5 h) σ h)
@[simp] def n7 (G : KT4 R) (v0 v1 v4 v5 : GV) (h : Heap) : Option R := n9 k (fun x v0 v1 v4 v5 h => kx x (n8 k G v0 v1 v4 v5 h) (G x v0 v1 v4 v5 h)) v0 v1 v4 v5 h
theorem n7_eq (G : KT4 R) (σ : GS) (h : Heap) : KC k 87 c7 σ h (fun x σ h => G x (σ 0) (σ 1) (σ 4) (σ 5) h) = n7 k G (σ 0) (σ 1) (σ 4) (σ 5) h := (kseq (b := c8) rfl (fun σ h => n8_eq k G σ h)).trans (n9_eq k (fun x v0 v1 v4 v5 h => kx x (n8 k G v0 v1 v4 v5 h) (G x v0 v1 v4 v5 h)) σ h)
noncomputable def c25 : Code := cL c6
@[simp] def n6 (G : KT4 R) (v0 v1 v4 v5 : GV) (h : Heap) : Option R := (klen v0).bind fun v8 => (kbin .lss v5 v8).bind fun v9 => kcond v9 (n7 k G v0 v1 v4 v5 h) (G (.ext 0) v0 v1 v4 v5 h)
theorem n6_eq (G : KT4 R) (σ : GS) (h : Heap) : KC k 87 c6 σ h (fun x σ h => G x (σ 0) (σ 1) (σ 4) (σ 5) h) = n6 k G (σ 0) (σ 1) (σ 4) (σ 5) h := (kseq (a := c25) (b := c7) rfl (fun σ h => n7_eq k G σ h)).trans (by kernel_rfl)
def l5 {R : Type} (k : Nat) (G : KT2 R) : Nat → GV → GV → GV → GV → Heap → Option R
  | 0, _, _, _, _, _ => none
  | r + 1, v0, v1, v4, v5, h => n6 k (fun x v0 v1 v4 v5 h => kx x (l5 k G r v0 v1 v4 v5 h) (G x v1 v4 h)) v0 v1 v4 v5 h
theorem l5_eq {R : Type} (k : Nat) (G : KT2 R) : ∀ (r : Nat) (σ : GS) (h : Heap), kloop (fun σ h K => KC k 87 c6 σ h K) r σ h (fun x σ h => G x (σ 1) (σ 4) h) = l5 k G r (σ 0) (σ 1) (σ 4) (σ 5) h
  | 0, _, _ => rfl
  | r + 1, σ, h => (kloop_eq (fun σ h => l5_eq k G r σ h)).trans (n6_eq k (fun x v0 v1 v4 v5 h => kx x (l5 k G r v0 v1 v4 v5 h) (G x v1 v4 h)) σ h)
@[simp] def n5 (G : KT2 R) (v0 v1 v4 v5 : GV) (h : Heap) : Option R := l5 k G k v0 v1 v4 v5 h
theorem n5_eq (G : KT2 R) (σ : GS) (h : Heap) : KC k 87 c5 σ h (fun x σ h => G x (σ 1) (σ 4) h) = n5 k G (σ 0) (σ 1) (σ 4) (σ 5) h := (kloopc_eq (a := c6) rfl).trans (l5_eq k G k σ h)
@[simp] def n4 (G : KT2 R) (v0 v1 v4 v5 : GV) (h : Heap) : Option R := n5 k (fun x v1 v4 h => kb 0 x fun x => G x v1 v4 h) v0 v1 v4 v5 h
theorem n4_eq (G : KT2 R) (σ : GS) (h : Heap) : KC k 87 c4 σ h (fun x σ h => G x (σ 1) (σ 4) h) = n4 k G (σ 0) (σ 1) (σ 4) (σ 5) h := (kblock_eq (a := c5) rfl).trans (n5_eq k (fun x v1 v4 h => kb 0 x fun x => G x v1 v4 h) σ h)
noncomputable def c26 : Code := cL c3
@[simp] def n3 (G : KT2 R) (v0 v1 v4 : GV) (h : Heap) : Option R := n4 k G v0 v1 v4 (.int .i64 0) h
theorem n3_eq (G : KT2 R) (σ : GS) (h : Heap) : KC k 87 c3 σ h (fun x σ h => G x (σ 1) (σ 4) h) = n3 k G (σ 0) (σ 1) (σ 4) h := (kseq (a := c26) (b := c4) rfl (fun σ h => n4_eq k G σ h)).trans (by kernel_rfl)
@[simp] def n1 (G : KT1 R) (v0 v1 v4 : GV) (h : Heap) : Option R := n3 k (fun x v1 v4 h => kx x (n2 k G v1 h) (G x v4 h)) v0 v1 v4 h
theorem n1_eq (G : KT1 R) (σ : GS) (h : Heap) : KC k 87 c1 σ h (fun x σ h => G x (σ 4) h) = n1 k G (σ 0) (σ 1) (σ 4) h := (kseq (b := c2) rfl (fun σ h => n2_eq k G σ h)).trans (n3_eq k (fun x v1 v4 h => kx x (n2 k G v1 h) (G x v4 h)) σ h)
noncomputable def c27 : Code := cL c0
@[simp] def n0 (G : KT1 R) (v0 v1 : GV) (h : Heap) : Option R := n1 k G v0 v1 (.int .i64 0) h
theorem n0_eq (G : KT1 R) (σ : GS) (h : Heap) : KC k 87 c0 σ h (fun x σ h => G x (σ 4) h) = n0 k G (σ 0) (σ 1) h := (kseq (a := c27) (b := c1) rfl (fun σ h => n1_eq k G σ h)).trans (by kernel_rfl)
def run {R : Type} (k : Nat) (a0 : GV) (a1 : GV) (h : Heap) (fin : GV → Heap → Option R) : Option R := n0 k (fun x v4 h => kend x (fin v4 h)) a0 a1 h
theorem run_eq {R : Type} (k : Nat) (a0 : GV) (a1 : GV) (h : Heap) (fin : GV → Heap → Option R) : kfun PP cfg NN HH k fn.laws_heldCellS [a0, a1] h fin = run k a0 a1 h fin := (kfun_eq (nt := 87) (c := c0) (show PP.funcs[fn.laws_heldCellS]? = some Try.f74 by kernel_rfl) (by kernel_rfl) (by kernel_rfl) (fun x σ h => by cases x <;> kernel_rfl)).trans (n0_eq k (fun x v4 h => kend x (fin v4 h)) _ h)
theorem gives {k : Nat} {a0 : GV} {a1 : GV} {v : GV} (e : run k a0 a1 [] finN = some v) : NN fn.laws_heldCellS [a0, a1] = some v := nω_of (by kernel_rfl) ((run_eq k a0 a1 [] finN).trans e)
end S.laws_heldCellS
/-! laws_eqCellS -/
namespace S.laws_eqCellS
noncomputable def c0 : Code := bodyOf Try.f79
noncomputable def c1 : Code := cR c0
noncomputable def c2 : Code := cR c1
noncomputable def c3 : Code := cR c2
@[simp] def n3 {R : Type} (k : Nat) (G : KT1 R) (h : Heap) : Option R := G .ret (.bool true) h
theorem n3_eq (G : KT1 R) (σ : GS) (h : Heap) : KC k 27 c3 σ h (fun x σ h => G x (σ 4) h) = n3 k G h := by kernel_rfl
noncomputable def c4 : Code := cL c2
noncomputable def c5 : Code := cR c4
noncomputable def c6 : Code := cL c5
noncomputable def c7 : Code := cL c6
noncomputable def c8 : Code := cR c7
noncomputable def c9 : Code := cR c8
@[simp] def n9 {R : Type} (k : Nat) (G : KT4 R) (v0 v1 v4 v5 : GV) (h : Heap) : Option R := (kbin .add v5 (.int .i64 1)).bind fun v16 => G .nrm v0 v1 v4 v16 h
theorem n9_eq (G : KT4 R) (σ : GS) (h : Heap) : KC k 27 c9 σ h (fun x σ h => G x (σ 0) (σ 1) (σ 4) (σ 5) h) = n9 k G (σ 0) (σ 1) (σ 4) (σ 5) h := by kernel_rfl
noncomputable def c10 : Code := cL c8
noncomputable def c11 : Code := cL c10
@[simp] def n11 {R : Type} (k : Nat) (G : KT4 R) (v0 v1 v4 v5 : GV) (h : Heap) : Option R := (kia 7 v0 v5).bind fun v19 => (kloadA 7 h v19).bind fun v20 => (kia 7 v1 v5).bind fun v23 => (kloadA 7 h v23).bind fun v24 => (kN NN fn.laws_eqCell [v20, v24] h).bind fun v25 => (kun .not v25).bind fun v26 => kcond v26 (G .ret v0 v1 (.bool false) v5 h) (G .nrm v0 v1 v4 v5 h)
theorem n11_eq (G : KT4 R) (σ : GS) (h : Heap) : KC k 27 c11 σ h (fun x σ h => G x (σ 0) (σ 1) (σ 4) (σ 5) h) = n11 k G (σ 0) (σ 1) (σ 4) (σ 5) h := by kernel_rfl
@[simp] def n10 (G : KT4 R) (v0 v1 v4 v5 : GV) (h : Heap) : Option R := n11 k (fun x v0 v1 v4 v5 h => kb 1 x fun x => G x v0 v1 v4 v5 h) v0 v1 v4 v5 h
theorem n10_eq (G : KT4 R) (σ : GS) (h : Heap) : KC k 27 c10 σ h (fun x σ h => G x (σ 0) (σ 1) (σ 4) (σ 5) h) = n10 k G (σ 0) (σ 1) (σ 4) (σ 5) h := (kblock_eq (a := c11) rfl).trans (n11_eq k (fun x v0 v1 v4 v5 h => kb 1 x fun x => G x v0 v1 v4 v5 h) σ h)
@[simp] def n8 (G : KT4 R) (v0 v1 v4 v5 : GV) (h : Heap) : Option R := n10 k (fun x v0 v1 v4 v5 h => kx x (n9 k G v0 v1 v4 v5 h) (G x v0 v1 v4 v5 h)) v0 v1 v4 v5 h
theorem n8_eq (G : KT4 R) (σ : GS) (h : Heap) : KC k 27 c8 σ h (fun x σ h => G x (σ 0) (σ 1) (σ 4) (σ 5) h) = n8 k G (σ 0) (σ 1) (σ 4) (σ 5) h := (kseq (b := c9) rfl (fun σ h => n9_eq k G σ h)).trans (n10_eq k (fun x v0 v1 v4 v5 h => kx x (n9 k G v0 v1 v4 v5 h) (G x v0 v1 v4 v5 h)) σ h)
noncomputable def c12 : Code := cL c7
@[simp] def n7 (G : KT4 R) (v0 v1 v4 v5 : GV) (h : Heap) : Option R := (klen v0).bind fun v13 => (kbin .lss v5 v13).bind fun v14 => kcond v14 (n8 k G v0 v1 v4 v5 h) (G (.ext 0) v0 v1 v4 v5 h)
theorem n7_eq (G : KT4 R) (σ : GS) (h : Heap) : KC k 27 c7 σ h (fun x σ h => G x (σ 0) (σ 1) (σ 4) (σ 5) h) = n7 k G (σ 0) (σ 1) (σ 4) (σ 5) h := (kseq (a := c12) (b := c8) rfl (fun σ h => n8_eq k G σ h)).trans (by kernel_rfl)
def l6 {R : Type} (k : Nat) (G : KT1 R) : Nat → GV → GV → GV → GV → Heap → Option R
  | 0, _, _, _, _, _ => none
  | r + 1, v0, v1, v4, v5, h => n7 k (fun x v0 v1 v4 v5 h => kx x (l6 k G r v0 v1 v4 v5 h) (G x v4 h)) v0 v1 v4 v5 h
theorem l6_eq {R : Type} (k : Nat) (G : KT1 R) : ∀ (r : Nat) (σ : GS) (h : Heap), kloop (fun σ h K => KC k 27 c7 σ h K) r σ h (fun x σ h => G x (σ 4) h) = l6 k G r (σ 0) (σ 1) (σ 4) (σ 5) h
  | 0, _, _ => rfl
  | r + 1, σ, h => (kloop_eq (fun σ h => l6_eq k G r σ h)).trans (n7_eq k (fun x v0 v1 v4 v5 h => kx x (l6 k G r v0 v1 v4 v5 h) (G x v4 h)) σ h)
@[simp] def n6 (G : KT1 R) (v0 v1 v4 v5 : GV) (h : Heap) : Option R := l6 k G k v0 v1 v4 v5 h
theorem n6_eq (G : KT1 R) (σ : GS) (h : Heap) : KC k 27 c6 σ h (fun x σ h => G x (σ 4) h) = n6 k G (σ 0) (σ 1) (σ 4) (σ 5) h := (kloopc_eq (a := c7) rfl).trans (l6_eq k G k σ h)
@[simp] def n5 (G : KT1 R) (v0 v1 v4 v5 : GV) (h : Heap) : Option R := n6 k (fun x v4 h => kb 0 x fun x => G x v4 h) v0 v1 v4 v5 h
theorem n5_eq (G : KT1 R) (σ : GS) (h : Heap) : KC k 27 c5 σ h (fun x σ h => G x (σ 4) h) = n5 k G (σ 0) (σ 1) (σ 4) (σ 5) h := (kblock_eq (a := c6) rfl).trans (n6_eq k (fun x v4 h => kb 0 x fun x => G x v4 h) σ h)
noncomputable def c13 : Code := cL c4
@[simp] def n4 (G : KT1 R) (v0 v1 v4 : GV) (h : Heap) : Option R := n5 k G v0 v1 v4 (.int .i64 0) h
theorem n4_eq (G : KT1 R) (σ : GS) (h : Heap) : KC k 27 c4 σ h (fun x σ h => G x (σ 4) h) = n4 k G (σ 0) (σ 1) (σ 4) h := (kseq (a := c13) (b := c5) rfl (fun σ h => n5_eq k G σ h)).trans (by kernel_rfl)
@[simp] def n2 (G : KT1 R) (v0 v1 v4 : GV) (h : Heap) : Option R := n4 k (fun x v4 h => kx x (n3 k G h) (G x v4 h)) v0 v1 v4 h
theorem n2_eq (G : KT1 R) (σ : GS) (h : Heap) : KC k 27 c2 σ h (fun x σ h => G x (σ 4) h) = n2 k G (σ 0) (σ 1) (σ 4) h := (kseq (b := c3) rfl (fun σ h => n3_eq k G σ h)).trans (n4_eq k (fun x v4 h => kx x (n3 k G h) (G x v4 h)) σ h)
noncomputable def c14 : Code := cL c1
@[simp] def n1 (G : KT1 R) (v0 v1 v4 : GV) (h : Heap) : Option R := (klen v0).bind fun v7 => (klen v1).bind fun v9 => (kbin .neq v7 v9).bind fun v10 => kcond v10 (G .ret (.bool false) h) (n2 k G v0 v1 v4 h)
theorem n1_eq (G : KT1 R) (σ : GS) (h : Heap) : KC k 27 c1 σ h (fun x σ h => G x (σ 4) h) = n1 k G (σ 0) (σ 1) (σ 4) h := (kseq (a := c14) (b := c2) rfl (fun σ h => n2_eq k G σ h)).trans (by kernel_rfl)
noncomputable def c15 : Code := cL c0
@[simp] def n0 (G : KT1 R) (v0 v1 : GV) (h : Heap) : Option R := n1 k G v0 v1 (.bool false) h
theorem n0_eq (G : KT1 R) (σ : GS) (h : Heap) : KC k 27 c0 σ h (fun x σ h => G x (σ 4) h) = n0 k G (σ 0) (σ 1) h := (kseq (a := c15) (b := c1) rfl (fun σ h => n1_eq k G σ h)).trans (by kernel_rfl)
def run {R : Type} (k : Nat) (a0 : GV) (a1 : GV) (h : Heap) (fin : GV → Heap → Option R) : Option R := n0 k (fun x v4 h => kend x (fin v4 h)) a0 a1 h
theorem run_eq {R : Type} (k : Nat) (a0 : GV) (a1 : GV) (h : Heap) (fin : GV → Heap → Option R) : kfun PP cfg NN HH k fn.laws_eqCellS [a0, a1] h fin = run k a0 a1 h fin := (kfun_eq (nt := 27) (c := c0) (show PP.funcs[fn.laws_eqCellS]? = some Try.f79 by kernel_rfl) (by kernel_rfl) (by kernel_rfl) (fun x σ h => by cases x <;> kernel_rfl)).trans (n0_eq k (fun x v4 h => kend x (fin v4 h)) _ h)
theorem gives {k : Nat} {a0 : GV} {a1 : GV} {v : GV} (e : run k a0 a1 [] finN = some v) : NN fn.laws_eqCellS [a0, a1] = some v := nω_of (by kernel_rfl) ((run_eq k a0 a1 [] finN).trans e)
end S.laws_eqCellS
/-! laws_eqCell -/
namespace S.laws_eqCell
noncomputable def c0 : Code := bodyOf Try.f81
@[simp] def n0 {R : Type} (k : Nat) (G : KT1 R) (v0 v1 : GV) (h : Heap) : Option R := kbox v0 h fun v2 h => kbox v1 h fun v3 h => (kfa 0 v2).bind fun v5 => (kload1 h v5).bind fun v6 => (kfa 0 v3).bind fun v7 => (kload1 h v7).bind fun v8 => (kbin .neq v6 v8).bind fun v9 => kcond v9 (G .ret (.bool false) h) ((kfa 1 v2).bind fun v10 => (kloadA 5 h v10).bind fun v11 => (kfa 1 v3).bind fun v12 => (kloadA 5 h v12).bind fun v13 => (kN NN fn.laws_eqStyle [v11, v13] h).bind fun v14 => (kun .not v14).bind fun v15 => kcond v15 (G .ret (.bool false) h) ((kfa 6 v2).bind fun v16 => (kload1 h v16).bind fun v17 => (kfa 6 v3).bind fun v18 => (kload1 h v18).bind fun v19 => (kbin .neq v17 v19).bind fun v20 => kcond v20 (G .ret (.bool false) h) (G .ret (.bool true) h)))
theorem n0_eq (G : KT1 R) (σ : GS) (h : Heap) : KC k 21 c0 σ h (fun x σ h => G x (σ 4) h) = n0 k G (σ 0) (σ 1) h := by kernel_rfl
def run {R : Type} (k : Nat) (a0 : GV) (a1 : GV) (h : Heap) (fin : GV → Heap → Option R) : Option R := n0 k (fun x v4 h => kend x (fin v4 h)) a0 a1 h
theorem run_eq {R : Type} (k : Nat) (a0 : GV) (a1 : GV) (h : Heap) (fin : GV → Heap → Option R) : kfun PP cfg NN HH k fn.laws_eqCell [a0, a1] h fin = run k a0 a1 h fin := (kfun_eq (nt := 21) (c := c0) (show PP.funcs[fn.laws_eqCell]? = some Try.f81 by kernel_rfl) (by kernel_rfl) (by kernel_rfl) (fun x σ h => by cases x <;> kernel_rfl)).trans (n0_eq k (fun x v4 h => kend x (fin v4 h)) _ h)
theorem gives {k : Nat} {a0 : GV} {a1 : GV} {v : GV} (e : run k a0 a1 [] finN = some v) : NN fn.laws_eqCell [a0, a1] = some v := nω_of (by kernel_rfl) ((run_eq k a0 a1 [] finN).trans e)
end S.laws_eqCell
end
end Go.Proofs.Ytolhjndfplfjpaa.G
