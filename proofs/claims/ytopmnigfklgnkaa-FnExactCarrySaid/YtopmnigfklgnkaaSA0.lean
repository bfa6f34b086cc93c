/- What these functions do, told for open values, out of the machine with continuations. Printed by a program of this session. -/
import Derived.Test.YtopmnigfklgnkaaCfg
import Derived.KernelRfl
namespace Go.Proofs.Ytopmnigfklgnkaa.G
open Go.RowKit
set_option linter.unusedVariables false
set_option maxRecDepth 100000
abbrev KT0 (R : Type) : Type := GX → Heap → Option R
abbrev KT1 (R : Type) : Type := GX → GV → Heap → Option R
abbrev KT2 (R : Type) : Type := GX → GV → GV → Heap → Option R
abbrev KT3 (R : Type) : Type := GX → GV → GV → GV → Heap → Option R
abbrev KT4 (R : Type) : Type := GX → GV → GV → GV → GV → Heap → Option R
abbrev KT5 (R : Type) : Type := GX → GV → GV → GV → GV → GV → Heap → Option R
abbrev KT6 (R : Type) : Type := GX → GV → GV → GV → GV → GV → GV → Heap → Option R
abbrev KT7 (R : Type) : Type := GX → GV → GV → GV → GV → GV → GV → GV → Heap → Option R
abbrev KT8 (R : Type) : Type := GX → GV → GV → GV → GV → GV → GV → GV → GV → Heap → Option R
abbrev KT9 (R : Type) : Type := GX → GV → GV → GV → GV → GV → GV → GV → GV → GV → Heap → Option R
abbrev KT10 (R : Type) : Type := GX → GV → GV → GV → GV → GV → GV → GV → GV → GV → GV → Heap → Option R
abbrev KT11 (R : Type) : Type := GX → GV → GV → GV → GV → GV → GV → GV → GV → GV → GV → GV → Heap → Option R
abbrev KT12 (R : Type) : Type := GX → GV → GV → GV → GV → GV → GV → GV → GV → GV → GV → GV → GV → Heap → Option R
abbrev KT13 (R : Type) : Type := GX → GV → GV → GV → GV → GV → GV → GV → GV → GV → GV → GV → GV → GV → Heap → Option R
abbrev KT14 (R : Type) : Type := GX → GV → GV → GV → GV → GV → GV → GV → GV → GV → GV → GV → GV → GV → GV → Heap → Option R
abbrev KT15 (R : Type) : Type := GX → GV → GV → GV → GV → GV → GV → GV → GV → GV → GV → GV → GV → GV → GV → GV → Heap → Option R
abbrev KT16 (R : Type) : Type := GX → GV → GV → GV → GV → GV → GV → GV → GV → GV → GV → GV → GV → GV → GV → GV → GV → Heap → Option R
abbrev KT17 (R : Type) : Type := GX → GV → GV → GV → GV → GV → GV → GV → GV → GV → GV → GV → GV → GV → GV → GV → GV → GV → Heap → Option R
abbrev KT18 (R : Type) : Type := GX → GV → GV → GV → GV → GV → GV → GV → GV → GV → GV → GV → GV → GV → GV → GV → GV → GV → GV → Heap → Option R
abbrev KT19 (R : Type) : Type := GX → GV → GV → GV → GV → GV → GV → GV → GV → GV → GV → GV → GV → GV → GV → GV → GV → GV → GV → GV → Heap → Option R
abbrev KT20 (R : Type) : Type := GX → GV → GV → GV → GV → GV → GV → GV → GV → GV → GV → GV → GV → GV → GV → GV → GV → GV → GV → GV → GV → Heap → Option R
abbrev KT21 (R : Type) : Type := GX → GV → GV → GV → GV → GV → GV → GV → GV → GV → GV → GV → GV → GV → GV → GV → GV → GV → GV → GV → GV → GV → Heap → Option R
abbrev KT22 (R : Type) : Type := GX → GV → GV → GV → GV → GV → GV → GV → GV → GV → GV → GV → GV → GV → GV → GV → GV → GV → GV → GV → GV → GV → GV → Heap → Option R
abbrev KT23 (R : Type) : Type := GX → GV → GV → GV → GV → GV → GV → GV → GV → GV → GV → GV → GV → GV → GV → GV → GV → GV → GV → GV → GV → GV → GV → GV → Heap → Option R
abbrev KT24 (R : Type) : Type := GX → GV → GV → GV → GV → GV → GV → GV → GV → GV → GV → GV → GV → GV → GV → GV → GV → GV → GV → GV → GV → GV → GV → GV → GV → Heap → Option R
abbrev KT25 (R : Type) : Type := GX → GV → GV → GV → GV → GV → GV → GV → GV → GV → GV → GV → GV → GV → GV → GV → GV → GV → GV → GV → GV → GV → GV → GV → GV → GV → Heap → Option R
abbrev KT26 (R : Type) : Type := GX → GV → GV → GV → GV → GV → GV → GV → GV → GV → GV → GV → GV → GV → GV → GV → GV → GV → GV → GV → GV → GV → GV → GV → GV → GV → GV → Heap → Option R
abbrev KT27 (R : Type) : Type := GX → GV → GV → GV → GV → GV → GV → GV → GV → GV → GV → GV → GV → GV → GV → GV → GV → GV → GV → GV → GV → GV → GV → GV → GV → GV → GV → GV → Heap → Option R
abbrev KT28 (R : Type) : Type := GX → GV → GV → GV → GV → GV → GV → GV → GV → GV → GV → GV → GV → GV → GV → GV → GV → GV → GV → GV → GV → GV → GV → GV → GV → GV → GV → GV → GV → Heap → Option R
abbrev KT29 (R : Type) : Type := GX → GV → GV → GV → GV → GV → GV → GV → GV → GV → GV → GV → GV → GV → GV → GV → GV → GV → GV → GV → GV → GV → GV → GV → GV → GV → GV → GV → GV → GV → Heap → Option R
abbrev KT30 (R : Type) : Type := GX → GV → GV → GV → GV → GV → GV → GV → GV → GV → GV → GV → GV → GV → GV → GV → GV → GV → GV → GV → GV → GV → GV → GV → GV → GV → GV → GV → GV → GV → GV → Heap → Option R
noncomputable section
/-! laws_szChain -/
namespace S.laws_szChain
noncomputable def c0 : Code := bodyOf Try.f12
@[simp] def n0 {R : Type} (k : Nat) (G : KT1 R) (v0 v1 : GV) (h : Heap) : Option R := kbox v0 h fun v2 h => (kfa 0 v2).bind fun v5 => (kload1 h v5).bind fun v6 => (kN NN fn.laws_szServerS [v6, v1] h).bind fun v8 => (kbin .lss v8 (.int .i64 0)).bind fun v10 => kcond v10 (G .ret (.int .i64 (-1)) h) ((kfa 1 v2).bind fun v11 => (kload1 h v11).bind fun v12 => (kN NN fn.laws_szStringSS [v12, v8] h).bind fun v14 => (kbin .lss v14 (.int .i64 0)).bind fun v16 => kcond v16 (G .ret (.int .i64 (-1)) h) ((kfa 2 v2).bind fun v17 => (kload1 h v17).bind fun v18 => (kN NN fn.laws_szInt64SS [v18, v14] h).bind fun v20 => (kbin .lss v20 (.int .i64 0)).bind fun v22 => kcond v22 (G .ret (.int .i64 (-1)) h) (G .ret v20 h)))
theorem n0_eq {R : Type} (k : Nat) (G : KT1 R) (σ : GS) (h : Heap) : KC k 24 c0 σ h (fun x σ h => G x (σ 4) h) = n0 k G (σ 0) (σ 1) h := by kernel_rfl
def run {R : Type} (k : Nat) (a0 : GV) (a1 : GV) (h : Heap) (fin : GV → Heap → Option R) : Option R := n0 k (fun x v4 h => kend x (fin v4 h)) a0 a1 h
theorem run_eq {R : Type} (k : Nat) (a0 : GV) (a1 : GV) (h : Heap) (fin : GV → Heap → Option R) : kfun PP cfg NN HH k fn.laws_szChain [a0, a1] h fin = run k a0 a1 h fin := (kfun_eq (nt := 24) (c := c0) (show PP.funcs[fn.laws_szChain]? = some Try.f12 by kernel_rfl) (by kernel_rfl) (by kernel_rfl) (fun x σ h => by cases x <;> kernel_rfl)).trans (n0_eq k (fun x v4 h => kend x (fin v4 h)) _ h)
theorem gives {k : Nat} {a0 : GV} {a1 : GV} {v : GV} (e : run k a0 a1 [] finN = some v) : NN fn.laws_szChain [a0, a1] = some v := nω_of (by kernel_rfl) ((run_eq k a0 a1 [] finN).trans e)
end S.laws_szChain
/-! laws_toChain -/
namespace S.laws_toChain
noncomputable def c0 : Code := bodyOf Try.f14
@[simp] def n0 {R : Type} (k : Nat) (G : KT1 R) (v0 : GV) (h : Heap) : Option R := kbox v0 h fun v1 h => kalloc [.nils, .nils, .nils] h fun v2 h => kalloc [.nils, .nils, .nils] h fun v3 h => (kfa 0 v1).bind fun v4 => (kload1 h v4).bind fun v5 => (kF false HH fn.laws_toServerS [v5] h).bind fun r => kr r fun v6 h => (kfa 0 v3).bind fun v7 => (kstore 1 h v7 v6).bind fun h => (kfa 1 v1).bind fun v8 => (kload1 h v8).bind fun v9 => (kF false HH fn.laws_toStringSS [v9] h).bind fun r => kr r fun v10 h => (kfa 1 v3).bind fun v11 => (kstore 1 h v11 v10).bind fun h => (kfa 2 v1).bind fun v12 => (kload1 h v12).bind fun v13 => (kF false HH fn.laws_toInt64SS [v13] h).bind fun r => kr r fun v14 h => (kfa 2 v3).bind fun v15 => (kstore 1 h v15 v14).bind fun h => (kloadA 3 h v3).bind fun v16 => (kstore 3 h v2 v16).bind fun h => G .ret v2 h
theorem n0_eq {R : Type} (k : Nat) (G : KT1 R) (σ : GS) (h : Heap) : KC k 17 c0 σ h (fun x σ h => G x (σ 2) h) = n0 k G (σ 0) h := by kernel_rfl
def run {R : Type} (k : Nat) (a0 : GV) (h : Heap) (fin : GV → Heap → Option R) : Option R := n0 k (fun x v2 h => kend x ((kloadA 3 h v2).bind fun w2 => fin w2 h)) a0 h
theorem run_eq {R : Type} (k : Nat) (a0 : GV) (h : Heap) (fin : GV → Heap → Option R) : kfun PP cfg NN HH k fn.laws_toChain [a0] h fin = run k a0 h fin := (kfun_eq (nt := 17) (c := c0) (show PP.funcs[fn.laws_toChain]? = some Try.f14 by kernel_rfl) (by kernel_rfl) (by kernel_rfl) (fun x σ h => by cases x <;> kernel_rfl)).trans (n0_eq k (fun x v2 h => kend x ((kloadA 3 h v2).bind fun w2 => fin w2 h)) _ h)
theorem gives {k : Nat} {a0 : GV} {b : Nat} {q : GV × List (List GV)} (e : run k a0 [] (finO b) = some q) : OO fn.laws_toChain [a0] b = some q := oω_of ((run_eq k a0 [] (finO b)).trans e)
end S.laws_toChain
/-! laws_eqStringS -/
namespace S.laws_eqStringS
noncomputable def c0 : Code := bodyOf Try.f16
noncomputable def c1 : Code := cR c0
noncomputable def c2 : Code := cR c1
noncomputable def c3 : Code := cR c2
@[simp] def n3 {R : Type} (k : Nat) (G : KT1 R) (h : Heap) : Option R := G .ret (.bool true) h
theorem n3_eq {R : Type} (k : Nat) (G : KT1 R) (σ : GS) (h : Heap) : KC k 26 c3 σ h (fun x σ h => G x (σ 4) h) = n3 k G h := by kernel_rfl
noncomputable def c4 : Code := cL c2
noncomputable def c5 : Code := cR c4
noncomputable def c6 : Code := cL c5
noncomputable def c7 : Code := cL c6
noncomputable def c8 : Code := cR c7
noncomputable def c9 : Code := cR c8
@[simp] def n9 {R : Type} (k : Nat) (G : KT4 R) (v0 v1 v4 v5 : GV) (h : Heap) : Option R := (kbin .add v5 (.int .i64 1)).bind fun v16 => G .nrm v0 v1 v4 v16 h
theorem n9_eq {R : Type} (k : Nat) (G : KT4 R) (σ : GS) (h : Heap) : KC k 26 c9 σ h (fun x σ h => G x (σ 0) (σ 1) (σ 4) (σ 5) h) = n9 k G (σ 0) (σ 1) (σ 4) (σ 5) h := by kernel_rfl
noncomputable def c10 : Code := cL c8
noncomputable def c11 : Code := cL c10
@[simp] def n11 {R : Type} (k : Nat) (G : KT4 R) (v0 v1 v4 v5 : GV) (h : Heap) : Option R := (kia 1 v0 v5).bind fun v19 => (kload1 h v19).bind fun v20 => (kia 1 v1 v5).bind fun v23 => (kload1 h v23).bind fun v24 => (kbin .neq v20 v24).bind fun v25 => kcond v25 (G .ret v0 v1 (.bool false) v5 h) (G .nrm v0 v1 v4 v5 h)
theorem n11_eq {R : Type} (k : Nat) (G : KT4 R) (σ : GS) (h : Heap) : KC k 26 c11 σ h (fun x σ h => G x (σ 0) (σ 1) (σ 4) (σ 5) h) = n11 k G (σ 0) (σ 1) (σ 4) (σ 5) h := by kernel_rfl
@[simp] def n10 {R : Type} (k : Nat) (G : KT4 R) (v0 v1 v4 v5 : GV) (h : Heap) : Option R := n11 k (fun x v0 v1 v4 v5 h => kb 1 x fun x => G x v0 v1 v4 v5 h) v0 v1 v4 v5 h
theorem n10_eq {R : Type} (k : Nat) (G : KT4 R) (σ : GS) (h : Heap) : KC k 26 c10 σ h (fun x σ h => G x (σ 0) (σ 1) (σ 4) (σ 5) h) = n10 k G (σ 0) (σ 1) (σ 4) (σ 5) h := (kblock_eq (a := c11) rfl).trans (n11_eq k (fun x v0 v1 v4 v5 h => kb 1 x fun x => G x v0 v1 v4 v5 h) σ h)
@[simp] def n8 {R : Type} (k : Nat) (G : KT4 R) (v0 v1 v4 v5 : GV) (h : Heap) : Option R := n10 k (fun x v0 v1 v4 v5 h => kx x (n9 k G v0 v1 v4 v5 h) (G x v0 v1 v4 v5 h)) v0 v1 v4 v5 h
theorem n8_eq {R : Type} (k : Nat) (G : KT4 R) (σ : GS) (h : Heap) : KC k 26 c8 σ h (fun x σ h => G x (σ 0) (σ 1) (σ 4) (σ 5) h) = n8 k G (σ 0) (σ 1) (σ 4) (σ 5) h := (kseq (b := c9) rfl (fun σ h => n9_eq k G σ h)).trans (n10_eq k (fun x v0 v1 v4 v5 h => kx x (n9 k G v0 v1 v4 v5 h) (G x v0 v1 v4 v5 h)) σ h)
noncomputable def c12 : Code := cL c7
@[simp] def n7 {R : Type} (k : Nat) (G : KT4 R) (v0 v1 v4 v5 : GV) (h : Heap) : Option R := (klen v0).bind fun v13 => (kbin .lss v5 v13).bind fun v14 => kcond v14 (n8 k G v0 v1 v4 v5 h) (G (.ext 0) v0 v1 v4 v5 h)
theorem n7_eq0 {R : Type} (k : Nat) (G : KT4 R) (σ : GS) (h : Heap) : KC k 26 c12 σ h (fun x σ h => kx x (n8 k G (σ 0) (σ 1) (σ 4) (σ 5) h) (G x (σ 0) (σ 1) (σ 4) (σ 5) h)) = n7 k G (σ 0) (σ 1) (σ 4) (σ 5) h := by kernel_rfl
theorem n7_eq {R : Type} (k : Nat) (G : KT4 R) (σ : GS) (h : Heap) : KC k 26 c7 σ h (fun x σ h => G x (σ 0) (σ 1) (σ 4) (σ 5) h) = n7 k G (σ 0) (σ 1) (σ 4) (σ 5) h := (kseq (b := c8) rfl (fun σ h => n8_eq k G σ h)).trans (n7_eq0 k G σ h)
def l6 {R : Type} (k : Nat) (G : KT1 R) : Nat → GV → GV → GV → GV → Heap → Option R
  | 0, _, _, _, _, _ => none
  | r + 1, v0, v1, v4, v5, h => n7 k (fun x v0 v1 v4 v5 h => kx x (l6 k G r v0 v1 v4 v5 h) (G x v4 h)) v0 v1 v4 v5 h
theorem l6_eq {R : Type} (k : Nat) (G : KT1 R) : ∀ (r : Nat) (σ : GS) (h : Heap), kloop (fun σ h K => KC k 26 c7 σ h K) r σ h (fun x σ h => G x (σ 4) h) = l6 k G r (σ 0) (σ 1) (σ 4) (σ 5) h
  | 0, _, _ => rfl
  | r + 1, σ, h => (kloop_eq (fun σ h => l6_eq k G r σ h)).trans (n7_eq k (fun x v0 v1 v4 v5 h => kx x (l6 k G r v0 v1 v4 v5 h) (G x v4 h)) σ h)
@[simp] def n6 {R : Type} (k : Nat) (G : KT1 R) (v0 v1 v4 v5 : GV) (h : Heap) : Option R := l6 k G k v0 v1 v4 v5 h
theorem n6_eq {R : Type} (k : Nat) (G : KT1 R) (σ : GS) (h : Heap) : KC k 26 c6 σ h (fun x σ h => G x (σ 4) h) = n6 k G (σ 0) (σ 1) (σ 4) (σ 5) h := (kloopc_eq (a := c7) rfl).trans (l6_eq k G k σ h)
@[simp] def n5 {R : Type} (k : Nat) (G : KT1 R) (v0 v1 v4 v5 : GV) (h : Heap) : Option R := n6 k (fun x v4 h => kb 0 x fun x => G x v4 h) v0 v1 v4 v5 h
theorem n5_eq {R : Type} (k : Nat) (G : KT1 R) (σ : GS) (h : Heap) : KC k 26 c5 σ h (fun x σ h => G x (σ 4) h) = n5 k G (σ 0) (σ 1) (σ 4) (σ 5) h := (kblock_eq (a := c6) rfl).trans (n6_eq k (fun x v4 h => kb 0 x fun x => G x v4 h) σ h)
noncomputable def c13 : Code := cL c4
@[simp] def n4 {R : Type} (k : Nat) (G : KT1 R) (v0 v1 v4 : GV) (h : Heap) : Option R := n5 k G v0 v1 v4 (.int .i64 0) h
theorem n4_eq0 {R : Type} (k : Nat) (G : KT1 R) (σ : GS) (h : Heap) : KC k 26 c13 σ h (fun x σ h => kx x (n5 k G (σ 0) (σ 1) (σ 4) (σ 5) h) (G x (σ 4) h)) = n4 k G (σ 0) (σ 1) (σ 4) h := by kernel_rfl
theorem n4_eq {R : Type} (k : Nat) (G : KT1 R) (σ : GS) (h : Heap) : KC k 26 c4 σ h (fun x σ h => G x (σ 4) h) = n4 k G (σ 0) (σ 1) (σ 4) h := (kseq (b := c5) rfl (fun σ h => n5_eq k G σ h)).trans (n4_eq0 k G σ h)
@[simp] def n2 {R : Type} (k : Nat) (G : KT1 R) (v0 v1 v4 : GV) (h : Heap) : Option R := n4 k (fun x v4 h => kx x (n3 k G h) (G x v4 h)) v0 v1 v4 h
theorem n2_eq {R : Type} (k : Nat) (G : KT1 R) (σ : GS) (h : Heap) : KC k 26 c2 σ h (fun x σ h => G x (σ 4) h) = n2 k G (σ 0) (σ 1) (σ 4) h := (kseq (b := c3) rfl (fun σ h => n3_eq k G σ h)).trans (n4_eq k (fun x v4 h => kx x (n3 k G h) (G x v4 h)) σ h)
noncomputable def c14 : Code := cL c1
@[simp] def n1 {R : Type} (k : Nat) (G : KT1 R) (v0 v1 v4 : GV) (h : Heap) : Option R := (klen v0).bind fun v7 => (klen v1).bind fun v9 => (kbin .neq v7 v9).bind fun v10 => kcond v10 (G .ret (.bool false) h) (n2 k G v0 v1 v4 h)
theorem n1_eq0 {R : Type} (k : Nat) (G : KT1 R) (σ : GS) (h : Heap) : KC k 26 c14 σ h (fun x σ h => kx x (n2 k G (σ 0) (σ 1) (σ 4) h) (G x (σ 4) h)) = n1 k G (σ 0) (σ 1) (σ 4) h := by kernel_rfl
theorem n1_eq {R : Type} (k : Nat) (G : KT1 R) (σ : GS) (h : Heap) : KC k 26 c1 σ h (fun x σ h => G x (σ 4) h) = n1 k G (σ 0) (σ 1) (σ 4) h := (kseq (b := c2) rfl (fun σ h => n2_eq k G σ h)).trans (n1_eq0 k G σ h)
noncomputable def c15 : Code := cL c0
@[simp] def n0 {R : Type} (k : Nat) (G : KT1 R) (v0 v1 : GV) (h : Heap) : Option R := n1 k G v0 v1 (.bool false) h
theorem n0_eq0 {R : Type} (k : Nat) (G : KT1 R) (σ : GS) (h : Heap) : KC k 26 c15 σ h (fun x σ h => kx x (n1 k G (σ 0) (σ 1) (σ 4) h) (G x (σ 4) h)) = n0 k G (σ 0) (σ 1) h := by kernel_rfl
theorem n0_eq {R : Type} (k : Nat) (G : KT1 R) (σ : GS) (h : Heap) : KC k 26 c0 σ h (fun x σ h => G x (σ 4) h) = n0 k G (σ 0) (σ 1) h := (kseq (b := c1) rfl (fun σ h => n1_eq k G σ h)).trans (n0_eq0 k G σ h)
def run {R : Type} (k : Nat) (a0 : GV) (a1 : GV) (h : Heap) (fin : GV → Heap → Option R) : Option R := n0 k (fun x v4 h => kend x (fin v4 h)) a0 a1 h
theorem run_eq {R : Type} (k : Nat) (a0 : GV) (a1 : GV) (h : Heap) (fin : GV → Heap → Option R) : kfun PP cfg NN HH k fn.laws_eqStringS [a0, a1] h fin = run k a0 a1 h fin := (kfun_eq (nt := 26) (c := c0) (show PP.funcs[fn.laws_eqStringS]? = some Try.f16 by kernel_rfl) (by kernel_rfl) (by kernel_rfl) (fun x σ h => by cases x <;> kernel_rfl)).trans (n0_eq k (fun x v4 h => kend x (fin v4 h)) _ h)
theorem gives {k : Nat} {a0 : GV} {a1 : GV} {v : GV} (e : run k a0 a1 [] finN = some v) : NN fn.laws_eqStringS [a0, a1] = some v := nω_of (by kernel_rfl) ((run_eq k a0 a1 [] finN).trans e)
end S.laws_eqStringS
/-! laws_eqChain -/
namespace S.laws_eqChain
noncomputable def c0 : Code := bodyOf Try.f17
@[simp] def n0 {R : Type} (k : Nat) (G : KT1 R) (v0 v1 : GV) (h : Heap) : Option R := kbox v0 h fun v2 h => kbox v1 h fun v3 h => (kfa 0 v2).bind fun v5 => (kload1 h v5).bind fun v6 => (kfa 0 v3).bind fun v7 => (kload1 h v7).bind fun v8 => (kN NN fn.laws_eqServerS [v6, v8] h).bind fun v9 => (kun .not v9).bind fun v10 => kcond v10 (G .ret (.bool false) h) ((kfa 1 v2).bind fun v11 => (kload1 h v11).bind fun v12 => (kfa 1 v3).bind fun v13 => (kload1 h v13).bind fun v14 => (kN NN fn.laws_eqStringSS [v12, v14] h).bind fun v15 => (kun .not v15).bind fun v16 => kcond v16 (G .ret (.bool false) h) ((kfa 2 v2).bind fun v17 => (kload1 h v17).bind fun v18 => (kfa 2 v3).bind fun v19 => (kload1 h v19).bind fun v20 => (kN NN fn.laws_eqInt64SS [v18, v20] h).bind fun v21 => (kun .not v21).bind fun v22 => kcond v22 (G .ret (.bool false) h) (G .ret (.bool true) h)))
theorem n0_eq {R : Type} (k : Nat) (G : KT1 R) (σ : GS) (h : Heap) : KC k 23 c0 σ h (fun x σ h => G x (σ 4) h) = n0 k G (σ 0) (σ 1) h := by kernel_rfl
def run {R : Type} (k : Nat) (a0 : GV) (a1 : GV) (h : Heap) (fin : GV → Heap → Option R) : Option R := n0 k (fun x v4 h => kend x (fin v4 h)) a0 a1 h
theorem run_eq {R : Type} (k : Nat) (a0 : GV) (a1 : GV) (h : Heap) (fin : GV → Heap → Option R) : kfun PP cfg NN HH k fn.laws_eqChain [a0, a1] h fin = run k a0 a1 h fin := (kfun_eq (nt := 23) (c := c0) (show PP.funcs[fn.laws_eqChain]? = some Try.f17 by kernel_rfl) (by kernel_rfl) (by kernel_rfl) (fun x σ h => by cases x <;> kernel_rfl)).trans (n0_eq k (fun x v4 h => kend x (fin v4 h)) _ h)
theorem gives {k : Nat} {a0 : GV} {a1 : GV} {v : GV} (e : run k a0 a1 [] finN = some v) : NN fn.laws_eqChain [a0, a1] = some v := nω_of (by kernel_rfl) ((run_eq k a0 a1 [] finN).trans e)
end S.laws_eqChain
/-! laws_markChain -/
namespace S.laws_markChain
noncomputable def c0 : Code := bodyOf Try.f18
@[simp] def n0 {R : Type} (k : Nat) (G : KT1 R) (v0 v1 : GV) (h : Heap) : Option R := kbox v0 h fun v2 h => (kfa 0 v2).bind fun v5 => (kload1 h v5).bind fun v6 => (HH fn.laws_markServerS [v6, v1] h).bind fun r => kr r fun v8 h => (kfa 1 v2).bind fun v9 => (kload1 h v9).bind fun v10 => (HH fn.laws_markStringSS [v10, v8] h).bind fun r => kr r fun v12 h => (kfa 2 v2).bind fun v13 => (kload1 h v13).bind fun v14 => (HH fn.laws_markInt64SS [v14, v12] h).bind fun r => kr r fun v16 h => G .ret v16 h
theorem n0_eq {R : Type} (k : Nat) (G : KT1 R) (σ : GS) (h : Heap) : KC k 18 c0 σ h (fun x σ h => G x (σ 4) h) = n0 k G (σ 0) (σ 1) h := by kernel_rfl
def run {R : Type} (k : Nat) (a0 : GV) (a1 : GV) (h : Heap) (fin : GV → Heap → Option R) : Option R := n0 k (fun x v4 h => kend x (fin v4 h)) a0 a1 h
theorem run_eq {R : Type} (k : Nat) (a0 : GV) (a1 : GV) (h : Heap) (fin : GV → Heap → Option R) : kfun PP cfg NN HH k fn.laws_markChain [a0, a1] h fin = run k a0 a1 h fin := (kfun_eq (nt := 18) (c := c0) (show PP.funcs[fn.laws_markChain]? = some Try.f18 by kernel_rfl) (by kernel_rfl) (by kernel_rfl) (fun x σ h => by cases x <;> kernel_rfl)).trans (n0_eq k (fun x v4 h => kend x (fin v4 h)) _ h)
theorem gives {k : Nat} {a0 : GV} {a1 : GV} {h : Heap} {r : GV × Heap} (e : run k a0 a1 h finH = some r) : HH fn.laws_markChain [a0, a1] h = some r := kω_of ((run_eq k a0 a1 h finH).trans e)
end S.laws_markChain
/-! laws_markStringS -/
namespace S.laws_markStringS
noncomputable def c0 : Code := bodyOf Try.f19
noncomputable def c1 : Code := cR c0
noncomputable def c2 : Code := cR c1
@[simp] def n2 {R : Type} (k : Nat) (G : KT1 R) (v1 : GV) (h : Heap) : Option R := G .ret v1 h
theorem n2_eq {R : Type} (k : Nat) (G : KT1 R) (σ : GS) (h : Heap) : KC k 20 c2 σ h (fun x σ h => G x (σ 4) h) = n2 k G (σ 1) h := by kernel_rfl
noncomputable def c3 : Code := cL c1
noncomputable def c4 : Code := cR c3
noncomputable def c5 : Code := cL c4
noncomputable def c6 : Code := cL c5
noncomputable def c7 : Code := cR c6
noncomputable def c8 : Code := cR c7
@[simp] def n8 {R : Type} (k : Nat) (G : KT4 R) (v0 v1 v4 v5 : GV) (h : Heap) : Option R := (kbin .add v5 (.int .i64 1)).bind fun v11 => G .nrm v0 v1 v4 v11 h
theorem n8_eq {R : Type} (k : Nat) (G : KT4 R) (σ : GS) (h : Heap) : KC k 20 c8 σ h (fun x σ h => G x (σ 0) (σ 1) (σ 4) (σ 5) h) = n8 k G (σ 0) (σ 1) (σ 4) (σ 5) h := by kernel_rfl
noncomputable def c9 : Code := cL c7
noncomputable def c10 : Code := cL c9
@[simp] def n10 {R : Type} (k : Nat) (G : KT4 R) (v0 v1 v4 v5 : GV) (h : Heap) : Option R := (kN NN fn.laws_markText [v1] h).bind fun v15 => (kia 1 v0 v5).bind fun v16 => (kstore 1 h v16 v15).bind fun h => (kbin .add v1 (.int .i64 1)).bind fun v18 => G .nrm v0 v18 v4 v5 h
theorem n10_eq {R : Type} (k : Nat) (G : KT4 R) (σ : GS) (h : Heap) : KC k 20 c10 σ h (fun x σ h => G x (σ 0) (σ 1) (σ 4) (σ 5) h) = n10 k G (σ 0) (σ 1) (σ 4) (σ 5) h := by kernel_rfl
@[simp] def n9 {R : Type} (k : Nat) (G : KT4 R) (v0 v1 v4 v5 : GV) (h : Heap) : Option R := n10 k (fun x v0 v1 v4 v5 h => kb 1 x fun x => G x v0 v1 v4 v5 h) v0 v1 v4 v5 h
theorem n9_eq {R : Type} (k : Nat) (G : KT4 R) (σ : GS) (h : Heap) : KC k 20 c9 σ h (fun x σ h => G x (σ 0) (σ 1) (σ 4) (σ 5) h) = n9 k G (σ 0) (σ 1) (σ 4) (σ 5) h := (kblock_eq (a := c10) rfl).trans (n10_eq k (fun x v0 v1 v4 v5 h => kb 1 x fun x => G x v0 v1 v4 v5 h) σ h)
@[simp] def n7 {R : Type} (k : Nat) (G : KT4 R) (v0 v1 v4 v5 : GV) (h : Heap) : Option R := n9 k (fun x v0 v1 v4 v5 h => kx x (n8 k G v0 v1 v4 v5 h) (G x v0 v1 v4 v5 h)) v0 v1 v4 v5 h
theorem n7_eq {R : Type} (k : Nat) (G : KT4 R) (σ : GS) (h : Heap) : KC k 20 c7 σ h (fun x σ h => G x (σ 0) (σ 1) (σ 4) (σ 5) h) = n7 k G (σ 0) (σ 1) (σ 4) (σ 5) h := (kseq (b := c8) rfl (fun σ h => n8_eq k G σ h)).trans (n9_eq k (fun x v0 v1 v4 v5 h => kx x (n8 k G v0 v1 v4 v5 h) (G x v0 v1 v4 v5 h)) σ h)
noncomputable def c11 : Code := cL c6
@[simp] def n6 {R : Type} (k : Nat) (G : KT4 R) (v0 v1 v4 v5 : GV) (h : Heap) : Option R := (klen v0).bind fun v8 => (kbin .lss v5 v8).bind fun v9 => kcond v9 (n7 k G v0 v1 v4 v5 h) (G (.ext 0) v0 v1 v4 v5 h)
theorem n6_eq0 {R : Type} (k : Nat) (G : KT4 R) (σ : GS) (h : Heap) : KC k 20 c11 σ h (fun x σ h => kx x (n7 k G (σ 0) (σ 1) (σ 4) (σ 5) h) (G x (σ 0) (σ 1) (σ 4) (σ 5) h)) = n6 k G (σ 0) (σ 1) (σ 4) (σ 5) h := by kernel_rfl
theorem n6_eq {R : Type} (k : Nat) (G : KT4 R) (σ : GS) (h : Heap) : KC k 20 c6 σ h (fun x σ h => G x (σ 0) (σ 1) (σ 4) (σ 5) h) = n6 k G (σ 0) (σ 1) (σ 4) (σ 5) h := (kseq (b := c7) rfl (fun σ h => n7_eq k G σ h)).trans (n6_eq0 k G σ h)
def l5 {R : Type} (k : Nat) (G : KT2 R) : Nat → GV → GV → GV → GV → Heap → Option R
  | 0, _, _, _, _, _ => none
  | r + 1, v0, v1, v4, v5, h => n6 k (fun x v0 v1 v4 v5 h => kx x (l5 k G r v0 v1 v4 v5 h) (G x v1 v4 h)) v0 v1 v4 v5 h
theorem l5_eq {R : Type} (k : Nat) (G : KT2 R) : ∀ (r : Nat) (σ : GS) (h : Heap), kloop (fun σ h K => KC k 20 c6 σ h K) r σ h (fun x σ h => G x (σ 1) (σ 4) h) = l5 k G r (σ 0) (σ 1) (σ 4) (σ 5) h
  | 0, _, _ => rfl
  | r + 1, σ, h => (kloop_eq (fun σ h => l5_eq k G r σ h)).trans (n6_eq k (fun x v0 v1 v4 v5 h => kx x (l5 k G r v0 v1 v4 v5 h) (G x v1 v4 h)) σ h)
@[simp] def n5 {R : Type} (k : Nat) (G : KT2 R) (v0 v1 v4 v5 : GV) (h : Heap) : Option R := l5 k G k v0 v1 v4 v5 h
theorem n5_eq {R : Type} (k : Nat) (G : KT2 R) (σ : GS) (h : Heap) : KC k 20 c5 σ h (fun x σ h => G x (σ 1) (σ 4) h) = n5 k G (σ 0) (σ 1) (σ 4) (σ 5) h := (kloopc_eq (a := c6) rfl).trans (l5_eq k G k σ h)
@[simp] def n4 {R : Type} (k : Nat) (G : KT2 R) (v0 v1 v4 v5 : GV) (h : Heap) : Option R := n5 k (fun x v1 v4 h => kb 0 x fun x => G x v1 v4 h) v0 v1 v4 v5 h
theorem n4_eq {R : Type} (k : Nat) (G : KT2 R) (σ : GS) (h : Heap) : KC k 20 c4 σ h (fun x σ h => G x (σ 1) (σ 4) h) = n4 k G (σ 0) (σ 1) (σ 4) (σ 5) h := (kblock_eq (a := c5) rfl).trans (n5_eq k (fun x v1 v4 h => kb 0 x fun x => G x v1 v4 h) σ h)
noncomputable def c12 : Code := cL c3
@[simp] def n3 {R : Type} (k : Nat) (G : KT2 R) (v0 v1 v4 : GV) (h : Heap) : Option R := n4 k G v0 v1 v4 (.int .i64 0) h
theorem n3_eq0 {R : Type} (k : Nat) (G : KT2 R) (σ : GS) (h : Heap) : KC k 20 c12 σ h (fun x σ h => kx x (n4 k G (σ 0) (σ 1) (σ 4) (σ 5) h) (G x (σ 1) (σ 4) h)) = n3 k G (σ 0) (σ 1) (σ 4) h := by kernel_rfl
theorem n3_eq {R : Type} (k : Nat) (G : KT2 R) (σ : GS) (h : Heap) : KC k 20 c3 σ h (fun x σ h => G x (σ 1) (σ 4) h) = n3 k G (σ 0) (σ 1) (σ 4) h := (kseq (b := c4) rfl (fun σ h => n4_eq k G σ h)).trans (n3_eq0 k G σ h)
@[simp] def n1 {R : Type} (k : Nat) (G : KT1 R) (v0 v1 v4 : GV) (h : Heap) : Option R := n3 k (fun x v1 v4 h => kx x (n2 k G v1 h) (G x v4 h)) v0 v1 v4 h
theorem n1_eq {R : Type} (k : Nat) (G : KT1 R) (σ : GS) (h : Heap) : KC k 20 c1 σ h (fun x σ h => G x (σ 4) h) = n1 k G (σ 0) (σ 1) (σ 4) h := (kseq (b := c2) rfl (fun σ h => n2_eq k G σ h)).trans (n3_eq k (fun x v1 v4 h => kx x (n2 k G v1 h) (G x v4 h)) σ h)
noncomputable def c13 : Code := cL c0
@[simp] def n0 {R : Type} (k : Nat) (G : KT1 R) (v0 v1 : GV) (h : Heap) : Option R := n1 k G v0 v1 (.int .i64 0) h
theorem n0_eq0 {R : Type} (k : Nat) (G : KT1 R) (σ : GS) (h : Heap) : KC k 20 c13 σ h (fun x σ h => kx x (n1 k G (σ 0) (σ 1) (σ 4) h) (G x (σ 4) h)) = n0 k G (σ 0) (σ 1) h := by kernel_rfl
theorem n0_eq {R : Type} (k : Nat) (G : KT1 R) (σ : GS) (h : Heap) : KC k 20 c0 σ h (fun x σ h => G x (σ 4) h) = n0 k G (σ 0) (σ 1) h := (kseq (b := c1) rfl (fun σ h => n1_eq k G σ h)).trans (n0_eq0 k G σ h)
def run {R : Type} (k : Nat) (a0 : GV) (a1 : GV) (h : Heap) (fin : GV → Heap → Option R) : Option R := n0 k (fun x v4 h => kend x (fin v4 h)) a0 a1 h
theorem run_eq {R : Type} (k : Nat) (a0 : GV) (a1 : GV) (h : Heap) (fin : GV → Heap → Option R) : kfun PP cfg NN HH k fn.laws_markStringS [a0, a1] h fin = run k a0 a1 h fin := (kfun_eq (nt := 20) (c := c0) (show PP.funcs[fn.laws_markStringS]? = some Try.f19 by kernel_rfl) (by kernel_rfl) (by kernel_rfl) (fun x σ h => by cases x <;> kernel_rfl)).trans (n0_eq k (fun x v4 h => kend x (fin v4 h)) _ h)
theorem gives {k : Nat} {a0 : GV} {a1 : GV} {h : Heap} {r : GV × Heap} (e : run k a0 a1 h finH = some r) : HH fn.laws_markStringS [a0, a1] h = some r := kω_of ((run_eq k a0 a1 h finH).trans e)
end S.laws_markStringS
/-! laws_heldStringS -/
namespace S.laws_heldStringS
noncomputable def c0 : Code := bodyOf Try.f20
noncomputable def c1 : Code := cR c0
noncomputable def c2 : Code := cR c1
@[simp] def n2 {R : Type} (k : Nat) (G : KT1 R) (v1 : GV) (h : Heap) : Option R := G .ret v1 h
theorem n2_eq {R : Type} (k : Nat) (G : KT1 R) (σ : GS) (h : Heap) : KC k 22 c2 σ h (fun x σ h => G x (σ 4) h) = n2 k G (σ 1) h := by kernel_rfl
noncomputable def c3 : Code := cL c1
noncomputable def c4 : Code := cR c3
noncomputable def c5 : Code := cL c4
noncomputable def c6 : Code := cL c5
noncomputable def c7 : Code := cR c6
noncomputable def c8 : Code := cR c7
@[simp] def n8 {R : Type} (k : Nat) (G : KT4 R) (v0 v1 v4 v5 : GV) (h : Heap) : Option R := (kbin .add v5 (.int .i64 1)).bind fun v11 => G .nrm v0 v1 v4 v11 h
theorem n8_eq {R : Type} (k : Nat) (G : KT4 R) (σ : GS) (h : Heap) : KC k 22 c8 σ h (fun x σ h => G x (σ 0) (σ 1) (σ 4) (σ 5) h) = n8 k G (σ 0) (σ 1) (σ 4) (σ 5) h := by kernel_rfl
noncomputable def c9 : Code := cL c7
noncomputable def c10 : Code := cL c9
@[simp] def n10 {R : Type} (k : Nat) (G : KT4 R) (v0 v1 v4 v5 : GV) (h : Heap) : Option R := (kia 1 v0 v5).bind fun v14 => (kload1 h v14).bind fun v15 => (kN NN fn.laws_markText [v1] h).bind fun v17 => (kbin .neq v15 v17).bind fun v18 => kcond v18 (G .ret v0 v1 (.int .i64 (-1)) v5 h) ((kbin .add v1 (.int .i64 1)).bind fun v20 => G .nrm v0 v20 v4 v5 h)
theorem n10_eq {R : Type} (k : Nat) (G : KT4 R) (σ : GS) (h : Heap) : KC k 22 c10 σ h (fun x σ h => G x (σ 0) (σ 1) (σ 4) (σ 5) h) = n10 k G (σ 0) (σ 1) (σ 4) (σ 5) h := by kernel_rfl
@[simp] def n9 {R : Type} (k : Nat) (G : KT4 R) (v0 v1 v4 v5 : GV) (h : Heap) : Option R := n10 k (fun x v0 v1 v4 v5 h => kb 1 x fun x => G x v0 v1 v4 v5 h) v0 v1 v4 v5 h
theorem n9_eq {R : Type} (k : Nat) (G : KT4 R) (σ : GS) (h : Heap) : KC k 22 c9 σ h (fun x σ h => G x (σ 0) (σ 1) (σ 4) (σ 5) h) = n9 k G (σ 0) (σ 1) (σ 4) (σ 5) h := (kblock_eq (a := c10) rfl).trans (n10_eq k (fun x v0 v1 v4 v5 h => kb 1 x fun x => G x v0 v1 v4 v5 h) σ h)
@[simp] def n7 {R : Type} (k : Nat) (G : KT4 R) (v0 v1 v4 v5 : GV) (h : Heap) : Option R := n9 k (fun x v0 v1 v4 v5 h => kx x (n8 k G v0 v1 v4 v5 h) (G x v0 v1 v4 v5 h)) v0 v1 v4 v5 h
theorem n7_eq {R : Type} (k : Nat) (G : KT4 R) (σ : GS) (h : Heap) : KC k 22 c7 σ h (fun x σ h => G x (σ 0) (σ 1) (σ 4) (σ 5) h) = n7 k G (σ 0) (σ 1) (σ 4) (σ 5) h := (kseq (b := c8) rfl (fun σ h => n8_eq k G σ h)).trans (n9_eq k (fun x v0 v1 v4 v5 h => kx x (n8 k G v0 v1 v4 v5 h) (G x v0 v1 v4 v5 h)) σ h)
noncomputable def c11 : Code := cL c6
@[simp] def n6 {R : Type} (k : Nat) (G : KT4 R) (v0 v1 v4 v5 : GV) (h : Heap) : Option R := (klen v0).bind fun v8 => (kbin .lss v5 v8).bind fun v9 => kcond v9 (n7 k G v0 v1 v4 v5 h) (G (.ext 0) v0 v1 v4 v5 h)
theorem n6_eq0 {R : Type} (k : Nat) (G : KT4 R) (σ : GS) (h : Heap) : KC k 22 c11 σ h (fun x σ h => kx x (n7 k G (σ 0) (σ 1) (σ 4) (σ 5) h) (G x (σ 0) (σ 1) (σ 4) (σ 5) h)) = n6 k G (σ 0) (σ 1) (σ 4) (σ 5) h := by kernel_rfl
theorem n6_eq {R : Type} (k : Nat) (G : KT4 R) (σ : GS) (h : Heap) : KC k 22 c6 σ h (fun x σ h => G x (σ 0) (σ 1) (σ 4) (σ 5) h) = n6 k G (σ 0) (σ 1) (σ 4) (σ 5) h := (kseq (b := c7) rfl (fun σ h => n7_eq k G σ h)).trans (n6_eq0 k G σ h)
def l5 {R : Type} (k : Nat) (G : KT2 R) : Nat → GV → GV → GV → GV → Heap → Option R
  | 0, _, _, _, _, _ => none
  | r + 1, v0, v1, v4, v5, h => n6 k (fun x v0 v1 v4 v5 h => kx x (l5 k G r v0 v1 v4 v5 h) (G x v1 v4 h)) v0 v1 v4 v5 h
theorem l5_eq {R : Type} (k : Nat) (G : KT2 R) : ∀ (r : Nat) (σ : GS) (h : Heap), kloop (fun σ h K => KC k 22 c6 σ h K) r σ h (fun x σ h => G x (σ 1) (σ 4) h) = l5 k G r (σ 0) (σ 1) (σ 4) (σ 5) h
  | 0, _, _ => rfl
  | r + 1, σ, h => (kloop_eq (fun σ h => l5_eq k G r σ h)).trans (n6_eq k (fun x v0 v1 v4 v5 h => kx x (l5 k G r v0 v1 v4 v5 h) (G x v1 v4 h)) σ h)
@[simp] def n5 {R : Type} (k : Nat) (G : KT2 R) (v0 v1 v4 v5 : GV) (h : Heap) : Option R := l5 k G k v0 v1 v4 v5 h
theorem n5_eq {R : Type} (k : Nat) (G : KT2 R) (σ : GS) (h : Heap) : KC k 22 c5 σ h (fun x σ h => G x (σ 1) (σ 4) h) = n5 k G (σ 0) (σ 1) (σ 4) (σ 5) h := (kloopc_eq (a := c6) rfl).trans (l5_eq k G k σ h)
@[simp] def n4 {R : Type} (k : Nat) (G : KT2 R) (v0 v1 v4 v5 : GV) (h : Heap) : Option R := n5 k (fun x v1 v4 h => kb 0 x fun x => G x v1 v4 h) v0 v1 v4 v5 h
theorem n4_eq {R : Type} (k : Nat) (G : KT2 R) (σ : GS) (h : Heap) : KC k 22 c4 σ h (fun x σ h => G x (σ 1) (σ 4) h) = n4 k G (σ 0) (σ 1) (σ 4) (σ 5) h := (kblock_eq (a := c5) rfl).trans (n5_eq k (fun x v1 v4 h => kb 0 x fun x => G x v1 v4 h) σ h)
noncomputable def c12 : Code := cL c3
@[simp] def n3 {R : Type} (k : Nat) (G : KT2 R) (v0 v1 v4 : GV) (h : Heap) : Option R := n4 k G v0 v1 v4 (.int .i64 0) h
theorem n3_eq0 {R : Type} (k : Nat) (G : KT2 R) (σ : GS) (h : Heap) : KC k 22 c12 σ h (fun x σ h => kx x (n4 k G (σ 0) (σ 1) (σ 4) (σ 5) h) (G x (σ 1) (σ 4) h)) = n3 k G (σ 0) (σ 1) (σ 4) h := by kernel_rfl
theorem n3_eq {R : Type} (k : Nat) (G : KT2 R) (σ : GS) (h : Heap) : KC k 22 c3 σ h (fun x σ h => G x (σ 1) (σ 4) h) = n3 k G (σ 0) (σ 1) (σ 4) h := (kseq (b := c4) rfl (fun σ h => n4_eq k G σ h)).trans (n3_eq0 k G σ h)
@[simp] def n1 {R : Type} (k : Nat) (G : KT1 R) (v0 v1 v4 : GV) (h : Heap) : Option R := n3 k (fun x v1 v4 h => kx x (n2 k G v1 h) (G x v4 h)) v0 v1 v4 h
theorem n1_eq {R : Type} (k : Nat) (G : KT1 R) (σ : GS) (h : Heap) : KC k 22 c1 σ h (fun x σ h => G x (σ 4) h) = n1 k G (σ 0) (σ 1) (σ 4) h := (kseq (b := c2) rfl (fun σ h => n2_eq k G σ h)).trans (n3_eq k (fun x v1 v4 h => kx x (n2 k G v1 h) (G x v4 h)) σ h)
noncomputable def c13 : Code := cL c0
@[simp] def n0 {R : Type} (k : Nat) (G : KT1 R) (v0 v1 : GV) (h : Heap) : Option R := n1 k G v0 v1 (.int .i64 0) h
theorem n0_eq0 {R : Type} (k : Nat) (G : KT1 R) (σ : GS) (h : Heap) : KC k 22 c13 σ h (fun x σ h => kx x (n1 k G (σ 0) (σ 1) (σ 4) h) (G x (σ 4) h)) = n0 k G (σ 0) (σ 1) h := by kernel_rfl
theorem n0_eq {R : Type} (k : Nat) (G : KT1 R) (σ : GS) (h : Heap) : KC k 22 c0 σ h (fun x σ h => G x (σ 4) h) = n0 k G (σ 0) (σ 1) h := (kseq (b := c1) rfl (fun σ h => n1_eq k G σ h)).trans (n0_eq0 k G σ h)
def run {R : Type} (k : Nat) (a0 : GV) (a1 : GV) (h : Heap) (fin : GV → Heap → Option R) : Option R := n0 k (fun x v4 h => kend x (fin v4 h)) a0 a1 h
theorem run_eq {R : Type} (k : Nat) (a0 : GV) (a1 : GV) (h : Heap) (fin : GV → Heap → Option R) : kfun PP cfg NN HH k fn.laws_heldStringS [a0, a1] h fin = run k a0 a1 h fin := (kfun_eq (nt := 22) (c := c0) (show PP.funcs[fn.laws_heldStringS]? = some Try.f20 by kernel_rfl) (by kernel_rfl) (by kernel_rfl) (fun x σ h => by cases x <;> kernel_rfl)).trans (n0_eq k (fun x v4 h => kend x (fin v4 h)) _ h)
theorem gives {k : Nat} {a0 : GV} {a1 : GV} {v : GV} (e : run k a0 a1 [] finN = some v) : NN fn.laws_heldStringS [a0, a1] = some v := nω_of (by kernel_rfl) ((run_eq k a0 a1 [] finN).trans e)
end S.laws_heldStringS
/-! laws_heldChain -/
namespace S.laws_heldChain
noncomputable def c0 : Code := bodyOf Try.f23
@[simp] def n0 {R : Type} (k : Nat) (G : KT1 R) (v0 v1 : GV) (h : Heap) : Option R := kbox v0 h fun v2 h => (kfa 0 v2).bind fun v5 => (kload1 h v5).bind fun v6 => (kN NN fn.laws_heldServerS [v6, v1] h).bind fun v8 => (kbin .lss v8 (.int .i64 0)).bind fun v10 => kcond v10 (G .ret (.int .i64 (-1)) h) ((kfa 1 v2).bind fun v11 => (kload1 h v11).bind fun v12 => (kN NN fn.laws_heldStringSS [v12, v8] h).bind fun v14 => (kbin .lss v14 (.int .i64 0)).bind fun v16 => kcond v16 (G .ret (.int .i64 (-1)) h) ((kfa 2 v2).bind fun v17 => (kload1 h v17).bind fun v18 => (kN NN fn.laws_heldInt64SS [v18, v14] h).bind fun v20 => (kbin .lss v20 (.int .i64 0)).bind fun v22 => kcond v22 (G .ret (.int .i64 (-1)) h) (G .ret v20 h)))
theorem n0_eq {R : Type} (k : Nat) (G : KT1 R) (σ : GS) (h : Heap) : KC k 24 c0 σ h (fun x σ h => G x (σ 4) h) = n0 k G (σ 0) (σ 1) h := by kernel_rfl
def run {R : Type} (k : Nat) (a0 : GV) (a1 : GV) (h : Heap) (fin : GV → Heap → Option R) : Option R := n0 k (fun x v4 h => kend x (fin v4 h)) a0 a1 h
theorem run_eq {R : Type} (k : Nat) (a0 : GV) (a1 : GV) (h : Heap) (fin : GV → Heap → Option R) : kfun PP cfg NN HH k fn.laws_heldChain [a0, a1] h fin = run k a0 a1 h fin := (kfun_eq (nt := 24) (c := c0) (show PP.funcs[fn.laws_heldChain]? = some Try.f23 by kernel_rfl) (by kernel_rfl) (by kernel_rfl) (fun x σ h => by cases x <;> kernel_rfl)).trans (n0_eq k (fun x v4 h => kend x (fin v4 h)) _ h)
theorem gives {k : Nat} {a0 : GV} {a1 : GV} {v : GV} (e : run k a0 a1 [] finN = some v) : NN fn.laws_heldChain [a0, a1] = some v := nω_of (by kernel_rfl) ((run_eq k a0 a1 [] finN).trans e)
end S.laws_heldChain
/-! laws_szServerS -/
namespace S.laws_szServerS
noncomputable def c0 : Code := bodyOf Try.f53
noncomputable def c1 : Code := cR c0
noncomputable def c2 : Code := cR c1
noncomputable def c3 : Code := cR c2
noncomputable def c4 : Code := cR c3
@[simp] def n4 {R : Type} (k : Nat) (G : KT1 R) (v1 : GV) (h : Heap) : Option R := G .ret v1 h
theorem n4_eq {R : Type} (k : Nat) (G : KT1 R) (σ : GS) (h : Heap) : KC k 27 c4 σ h (fun x σ h => G x (σ 4) h) = n4 k G (σ 1) h := by kernel_rfl
noncomputable def c5 : Code := cL c3
noncomputable def c6 : Code := cR c5
noncomputable def c7 : Code := cL c6
noncomputable def c8 : Code := cL c7
noncomputable def c9 : Code := cR c8
noncomputable def c10 : Code := cR c9
@[simp] def n10 {R : Type} (k : Nat) (G : KT4 R) (v0 v1 v4 v5 : GV) (h : Heap) : Option R := (kbin .add v5 (.int .i64 1)).bind fun v17 => G .nrm v0 v1 v4 v17 h
theorem n10_eq {R : Type} (k : Nat) (G : KT4 R) (σ : GS) (h : Heap) : KC k 27 c10 σ h (fun x σ h => G x (σ 0) (σ 1) (σ 4) (σ 5) h) = n10 k G (σ 0) (σ 1) (σ 4) (σ 5) h := by kernel_rfl
noncomputable def c11 : Code := cL c9
noncomputable def c12 : Code := cL c11
@[simp] def n12 {R : Type} (k : Nat) (G : KT4 R) (v0 v1 v4 v5 : GV) (h : Heap) : Option R := (kia 2 v0 v5).bind fun v20 => (kloadA 2 h v20).bind fun v21 => (kN NN fn.laws_szServer [v21, v1] h).bind fun v23 => (kbin .lss v23 (.int .i64 0)).bind fun v25 => kcond v25 (G .ret v0 v23 (.int .i64 (-1)) v5 h) (G .nrm v0 v23 v4 v5 h)
theorem n12_eq {R : Type} (k : Nat) (G : KT4 R) (σ : GS) (h : Heap) : KC k 27 c12 σ h (fun x σ h => G x (σ 0) (σ 1) (σ 4) (σ 5) h) = n12 k G (σ 0) (σ 1) (σ 4) (σ 5) h := by kernel_rfl
@[simp] def n11 {R : Type} (k : Nat) (G : KT4 R) (v0 v1 v4 v5 : GV) (h : Heap) : Option R := n12 k (fun x v0 v1 v4 v5 h => kb 1 x fun x => G x v0 v1 v4 v5 h) v0 v1 v4 v5 h
theorem n11_eq {R : Type} (k : Nat) (G : KT4 R) (σ : GS) (h : Heap) : KC k 27 c11 σ h (fun x σ h => G x (σ 0) (σ 1) (σ 4) (σ 5) h) = n11 k G (σ 0) (σ 1) (σ 4) (σ 5) h := (kblock_eq (a := c12) rfl).trans (n12_eq k (fun x v0 v1 v4 v5 h => kb 1 x fun x => G x v0 v1 v4 v5 h) σ h)
@[simp] def n9 {R : Type} (k : Nat) (G : KT4 R) (v0 v1 v4 v5 : GV) (h : Heap) : Option R := n11 k (fun x v0 v1 v4 v5 h => kx x (n10 k G v0 v1 v4 v5 h) (G x v0 v1 v4 v5 h)) v0 v1 v4 v5 h
theorem n9_eq {R : Type} (k : Nat) (G : KT4 R) (σ : GS) (h : Heap) : KC k 27 c9 σ h (fun x σ h => G x (σ 0) (σ 1) (σ 4) (σ 5) h) = n9 k G (σ 0) (σ 1) (σ 4) (σ 5) h := (kseq (b := c10) rfl (fun σ h => n10_eq k G σ h)).trans (n11_eq k (fun x v0 v1 v4 v5 h => kx x (n10 k G v0 v1 v4 v5 h) (G x v0 v1 v4 v5 h)) σ h)
noncomputable def c13 : Code := cL c8
@[simp] def n8 {R : Type} (k : Nat) (G : KT4 R) (v0 v1 v4 v5 : GV) (h : Heap) : Option R := (klen v0).bind fun v14 => (kbin .lss v5 v14).bind fun v15 => kcond v15 (n9 k G v0 v1 v4 v5 h) (G (.ext 0) v0 v1 v4 v5 h)
theorem n8_eq0 {R : Type} (k : Nat) (G : KT4 R) (σ : GS) (h : Heap) : KC k 27 c13 σ h (fun x σ h => kx x (n9 k G (σ 0) (σ 1) (σ 4) (σ 5) h) (G x (σ 0) (σ 1) (σ 4) (σ 5) h)) = n8 k G (σ 0) (σ 1) (σ 4) (σ 5) h := by kernel_rfl
theorem n8_eq {R : Type} (k : Nat) (G : KT4 R) (σ : GS) (h : Heap) : KC k 27 c8 σ h (fun x σ h => G x (σ 0) (σ 1) (σ 4) (σ 5) h) = n8 k G (σ 0) (σ 1) (σ 4) (σ 5) h := (kseq (b := c9) rfl (fun σ h => n9_eq k G σ h)).trans (n8_eq0 k G σ h)
def l7 {R : Type} (k : Nat) (G : KT2 R) : Nat → GV → GV → GV → GV → Heap → Option R
  | 0, _, _, _, _, _ => none
  | r + 1, v0, v1, v4, v5, h => n8 k (fun x v0 v1 v4 v5 h => kx x (l7 k G r v0 v1 v4 v5 h) (G x v1 v4 h)) v0 v1 v4 v5 h
theorem l7_eq {R : Type} (k : Nat) (G : KT2 R) : ∀ (r : Nat) (σ : GS) (h : Heap), kloop (fun σ h K => KC k 27 c8 σ h K) r σ h (fun x σ h => G x (σ 1) (σ 4) h) = l7 k G r (σ 0) (σ 1) (σ 4) (σ 5) h
  | 0, _, _ => rfl
  | r + 1, σ, h => (kloop_eq (fun σ h => l7_eq k G r σ h)).trans (n8_eq k (fun x v0 v1 v4 v5 h => kx x (l7 k G r v0 v1 v4 v5 h) (G x v1 v4 h)) σ h)
@[simp] def n7 {R : Type} (k : Nat) (G : KT2 R) (v0 v1 v4 v5 : GV) (h : Heap) : Option R := l7 k G k v0 v1 v4 v5 h
theorem n7_eq {R : Type} (k : Nat) (G : KT2 R) (σ : GS) (h : Heap) : KC k 27 c7 σ h (fun x σ h => G x (σ 1) (σ 4) h) = n7 k G (σ 0) (σ 1) (σ 4) (σ 5) h := (kloopc_eq (a := c8) rfl).trans (l7_eq k G k σ h)
@[simp] def n6 {R : Type} (k : Nat) (G : KT2 R) (v0 v1 v4 v5 : GV) (h : Heap) : Option R := n7 k (fun x v1 v4 h => kb 0 x fun x => G x v1 v4 h) v0 v1 v4 v5 h
theorem n6_eq {R : Type} (k : Nat) (G : KT2 R) (σ : GS) (h : Heap) : KC k 27 c6 σ h (fun x σ h => G x (σ 1) (σ 4) h) = n6 k G (σ 0) (σ 1) (σ 4) (σ 5) h := (kblock_eq (a := c7) rfl).trans (n7_eq k (fun x v1 v4 h => kb 0 x fun x => G x v1 v4 h) σ h)
noncomputable def c14 : Code := cL c5
@[simp] def n5 {R : Type} (k : Nat) (G : KT2 R) (v0 v1 v4 : GV) (h : Heap) : Option R := n6 k G v0 v1 v4 (.int .i64 0) h
theorem n5_eq0 {R : Type} (k : Nat) (G : KT2 R) (σ : GS) (h : Heap) : KC k 27 c14 σ h (fun x σ h => kx x (n6 k G (σ 0) (σ 1) (σ 4) (σ 5) h) (G x (σ 1) (σ 4) h)) = n5 k G (σ 0) (σ 1) (σ 4) h := by kernel_rfl
theorem n5_eq {R : Type} (k : Nat) (G : KT2 R) (σ : GS) (h : Heap) : KC k 27 c5 σ h (fun x σ h => G x (σ 1) (σ 4) h) = n5 k G (σ 0) (σ 1) (σ 4) h := (kseq (b := c6) rfl (fun σ h => n6_eq k G σ h)).trans (n5_eq0 k G σ h)
@[simp] def n3 {R : Type} (k : Nat) (G : KT1 R) (v0 v1 v4 : GV) (h : Heap) : Option R := n5 k (fun x v1 v4 h => kx x (n4 k G v1 h) (G x v4 h)) v0 v1 v4 h
theorem n3_eq {R : Type} (k : Nat) (G : KT1 R) (σ : GS) (h : Heap) : KC k 27 c3 σ h (fun x σ h => G x (σ 4) h) = n3 k G (σ 0) (σ 1) (σ 4) h := (kseq (b := c4) rfl (fun σ h => n4_eq k G σ h)).trans (n5_eq k (fun x v1 v4 h => kx x (n4 k G v1 h) (G x v4 h)) σ h)
noncomputable def c15 : Code := cL c2
@[simp] def n2 {R : Type} (k : Nat) (G : KT1 R) (v0 v1 v4 : GV) (h : Heap) : Option R := (kbin .lss v1 (.int .i64 0)).bind fun v11 => kcond v11 (G .ret (.int .i64 (-1)) h) (n3 k G v0 v1 v4 h)
theorem n2_eq0 {R : Type} (k : Nat) (G : KT1 R) (σ : GS) (h : Heap) : KC k 27 c15 σ h (fun x σ h => kx x (n3 k G (σ 0) (σ 1) (σ 4) h) (G x (σ 4) h)) = n2 k G (σ 0) (σ 1) (σ 4) h := by kernel_rfl
theorem n2_eq {R : Type} (k : Nat) (G : KT1 R) (σ : GS) (h : Heap) : KC k 27 c2 σ h (fun x σ h => G x (σ 4) h) = n2 k G (σ 0) (σ 1) (σ 4) h := (kseq (b := c3) rfl (fun σ h => n3_eq k G σ h)).trans (n2_eq0 k G σ h)
noncomputable def c16 : Code := cL c1
@[simp] def n1 {R : Type} (k : Nat) (G : KT1 R) (v0 v1 v4 : GV) (h : Heap) : Option R := (klen v0).bind fun v8 => (kbin .sub v1 v8).bind fun v9 => n2 k G v0 v9 v4 h
theorem n1_eq0 {R : Type} (k : Nat) (G : KT1 R) (σ : GS) (h : Heap) : KC k 27 c16 σ h (fun x σ h => kx x (n2 k G (σ 0) (σ 1) (σ 4) h) (G x (σ 4) h)) = n1 k G (σ 0) (σ 1) (σ 4) h := by kernel_rfl
theorem n1_eq {R : Type} (k : Nat) (G : KT1 R) (σ : GS) (h : Heap) : KC k 27 c1 σ h (fun x σ h => G x (σ 4) h) = n1 k G (σ 0) (σ 1) (σ 4) h := (kseq (b := c2) rfl (fun σ h => n2_eq k G σ h)).trans (n1_eq0 k G σ h)
noncomputable def c17 : Code := cL c0
@[simp] def n0 {R : Type} (k : Nat) (G : KT1 R) (v0 v1 : GV) (h : Heap) : Option R := n1 k G v0 v1 (.int .i64 0) h
theorem n0_eq0 {R : Type} (k : Nat) (G : KT1 R) (σ : GS) (h : Heap) : KC k 27 c17 σ h (fun x σ h => kx x (n1 k G (σ 0) (σ 1) (σ 4) h) (G x (σ 4) h)) = n0 k G (σ 0) (σ 1) h := by kernel_rfl
theorem n0_eq {R : Type} (k : Nat) (G : KT1 R) (σ : GS) (h : Heap) : KC k 27 c0 σ h (fun x σ h => G x (σ 4) h) = n0 k G (σ 0) (σ 1) h := (kseq (b := c1) rfl (fun σ h => n1_eq k G σ h)).trans (n0_eq0 k G σ h)
def run {R : Type} (k : Nat) (a0 : GV) (a1 : GV) (h : Heap) (fin : GV → Heap → Option R) : Option R := n0 k (fun x v4 h => kend x (fin v4 h)) a0 a1 h
theorem run_eq {R : Type} (k : Nat) (a0 : GV) (a1 : GV) (h : Heap) (fin : GV → Heap → Option R) : kfun PP cfg NN HH k fn.laws_szServerS [a0, a1] h fin = run k a0 a1 h fin := (kfun_eq (nt := 27) (c := c0) (show PP.funcs[fn.laws_szServerS]? = some Try.f53 by kernel_rfl) (by kernel_rfl) (by kernel_rfl) (fun x σ h => by cases x <;> kernel_rfl)).trans (n0_eq k (fun x v4 h => kend x (fin v4 h)) _ h)
theorem gives {k : Nat} {a0 : GV} {a1 : GV} {v : GV} (e : run k a0 a1 [] finN = some v) : NN fn.laws_szServerS [a0, a1] = some v := nω_of (by kernel_rfl) ((run_eq k a0 a1 [] finN).trans e)
end S.laws_szServerS
/-! laws_szStringSS -/
namespace S.laws_szStringSS
noncomputable def c0 : Code := bodyOf Try.f54
noncomputable def c1 : Code := cR c0
noncomputable def c2 : Code := cR c1
noncomputable def c3 : Code := cR c2
noncomputable def c4 : Code := cR c3
@[simp] def n4 {R : Type} (k : Nat) (G : KT1 R) (v1 : GV) (h : Heap) : Option R := G .ret v1 h
theorem n4_eq {R : Type} (k : Nat) (G : KT1 R) (σ : GS) (h : Heap) : KC k 27 c4 σ h (fun x σ h => G x (σ 4) h) = n4 k G (σ 1) h := by kernel_rfl
noncomputable def c5 : Code := cL c3
noncomputable def c6 : Code := cR c5
noncomputable def c7 : Code := cL c6
noncomputable def c8 : Code := cL c7
noncomputable def c9 : Code := cR c8
noncomputable def c10 : Code := cR c9
@[simp] def n10 {R : Type} (k : Nat) (G : KT4 R) (v0 v1 v4 v5 : GV) (h : Heap) : Option R := (kbin .add v5 (.int .i64 1)).bind fun v17 => G .nrm v0 v1 v4 v17 h
theorem n10_eq {R : Type} (k : Nat) (G : KT4 R) (σ : GS) (h : Heap) : KC k 27 c10 σ h (fun x σ h => G x (σ 0) (σ 1) (σ 4) (σ 5) h) = n10 k G (σ 0) (σ 1) (σ 4) (σ 5) h := by kernel_rfl
noncomputable def c11 : Code := cL c9
noncomputable def c12 : Code := cL c11
@[simp] def n12 {R : Type} (k : Nat) (G : KT4 R) (v0 v1 v4 v5 : GV) (h : Heap) : Option R := (kia 1 v0 v5).bind fun v20 => (kload1 h v20).bind fun v21 => (kN NN fn.laws_szStringS [v21, v1] h).bind fun v23 => (kbin .lss v23 (.int .i64 0)).bind fun v25 => kcond v25 (G .ret v0 v23 (.int .i64 (-1)) v5 h) (G .nrm v0 v23 v4 v5 h)
theorem n12_eq {R : Type} (k : Nat) (G : KT4 R) (σ : GS) (h : Heap) : KC k 27 c12 σ h (fun x σ h => G x (σ 0) (σ 1) (σ 4) (σ 5) h) = n12 k G (σ 0) (σ 1) (σ 4) (σ 5) h := by kernel_rfl
@[simp] def n11 {R : Type} (k : Nat) (G : KT4 R) (v0 v1 v4 v5 : GV) (h : Heap) : Option R := n12 k (fun x v0 v1 v4 v5 h => kb 1 x fun x => G x v0 v1 v4 v5 h) v0 v1 v4 v5 h
theorem n11_eq {R : Type} (k : Nat) (G : KT4 R) (σ : GS) (h : Heap) : KC k 27 c11 σ h (fun x σ h => G x (σ 0) (σ 1) (σ 4) (σ 5) h) = n11 k G (σ 0) (σ 1) (σ 4) (σ 5) h := (kblock_eq (a := c12) rfl).trans (n12_eq k (fun x v0 v1 v4 v5 h => kb 1 x fun x => G x v0 v1 v4 v5 h) σ h)
@[simp] def n9 {R : Type} (k : Nat) (G : KT4 R) (v0 v1 v4 v5 : GV) (h : Heap) : Option R := n11 k (fun x v0 v1 v4 v5 h => kx x (n10 k G v0 v1 v4 v5 h) (G x v0 v1 v4 v5 h)) v0 v1 v4 v5 h
theorem n9_eq {R : Type} (k : Nat) (G : KT4 R) (σ : GS) (h : Heap) : KC k 27 c9 σ h (fun x σ h => G x (σ 0) (σ 1) (σ 4) (σ 5) h) = n9 k G (σ 0) (σ 1) (σ 4) (σ 5) h := (kseq (b := c10) rfl (fun σ h => n10_eq k G σ h)).trans (n11_eq k (fun x v0 v1 v4 v5 h => kx x (n10 k G v0 v1 v4 v5 h) (G x v0 v1 v4 v5 h)) σ h)
noncomputable def c13 : Code := cL c8
@[simp] def n8 {R : Type} (k : Nat) (G : KT4 R) (v0 v1 v4 v5 : GV) (h : Heap) : Option R := (klen v0).bind fun v14 => (kbin .lss v5 v14).bind fun v15 => kcond v15 (n9 k G v0 v1 v4 v5 h) (G (.ext 0) v0 v1 v4 v5 h)
theorem n8_eq0 {R : Type} (k : Nat) (G : KT4 R) (σ : GS) (h : Heap) : KC k 27 c13 σ h (fun x σ h => kx x (n9 k G (σ 0) (σ 1) (σ 4) (σ 5) h) (G x (σ 0) (σ 1) (σ 4) (σ 5) h)) = n8 k G (σ 0) (σ 1) (σ 4) (σ 5) h := by kernel_rfl
theorem n8_eq {R : Type} (k : Nat) (G : KT4 R) (σ : GS) (h : Heap) : KC k 27 c8 σ h (fun x σ h => G x (σ 0) (σ 1) (σ 4) (σ 5) h) = n8 k G (σ 0) (σ 1) (σ 4) (σ 5) h := (kseq (b := c9) rfl (fun σ h => n9_eq k G σ h)).trans (n8_eq0 k G σ h)
def l7 {R : Type} (k : Nat) (G : KT2 R) : Nat → GV → GV → GV → GV → Heap → Option R
  | 0, _, _, _, _, _ => none
  | r + 1, v0, v1, v4, v5, h => n8 k (fun x v0 v1 v4 v5 h => kx x (l7 k G r v0 v1 v4 v5 h) (G x v1 v4 h)) v0 v1 v4 v5 h
theorem l7_eq {R : Type} (k : Nat) (G : KT2 R) : ∀ (r : Nat) (σ : GS) (h : Heap), kloop (fun σ h K => KC k 27 c8 σ h K) r σ h (fun x σ h => G x (σ 1) (σ 4) h) = l7 k G r (σ 0) (σ 1) (σ 4) (σ 5) h
  | 0, _, _ => rfl
  | r + 1, σ, h => (kloop_eq (fun σ h => l7_eq k G r σ h)).trans (n8_eq k (fun x v0 v1 v4 v5 h => kx x (l7 k G r v0 v1 v4 v5 h) (G x v1 v4 h)) σ h)
@[simp] def n7 {R : Type} (k : Nat) (G : KT2 R) (v0 v1 v4 v5 : GV) (h : Heap) : Option R := l7 k G k v0 v1 v4 v5 h
theorem n7_eq {R : Type} (k : Nat) (G : KT2 R) (σ : GS) (h : Heap) : KC k 27 c7 σ h (fun x σ h => G x (σ 1) (σ 4) h) = n7 k G (σ 0) (σ 1) (σ 4) (σ 5) h := (kloopc_eq (a := c8) rfl).trans (l7_eq k G k σ h)
@[simp] def n6 {R : Type} (k : Nat) (G : KT2 R) (v0 v1 v4 v5 : GV) (h : Heap) : Option R := n7 k (fun x v1 v4 h => kb 0 x fun x => G x v1 v4 h) v0 v1 v4 v5 h
theorem n6_eq {R : Type} (k : Nat) (G : KT2 R) (σ : GS) (h : Heap) : KC k 27 c6 σ h (fun x σ h => G x (σ 1) (σ 4) h) = n6 k G (σ 0) (σ 1) (σ 4) (σ 5) h := (kblock_eq (a := c7) rfl).trans (n7_eq k (fun x v1 v4 h => kb 0 x fun x => G x v1 v4 h) σ h)
noncomputable def c14 : Code := cL c5
@[simp] def n5 {R : Type} (k : Nat) (G : KT2 R) (v0 v1 v4 : GV) (h : Heap) : Option R := n6 k G v0 v1 v4 (.int .i64 0) h
theorem n5_eq0 {R : Type} (k : Nat) (G : KT2 R) (σ : GS) (h : Heap) : KC k 27 c14 σ h (fun x σ h => kx x (n6 k G (σ 0) (σ 1) (σ 4) (σ 5) h) (G x (σ 1) (σ 4) h)) = n5 k G (σ 0) (σ 1) (σ 4) h := by kernel_rfl
theorem n5_eq {R : Type} (k : Nat) (G : KT2 R) (σ : GS) (h : Heap) : KC k 27 c5 σ h (fun x σ h => G x (σ 1) (σ 4) h) = n5 k G (σ 0) (σ 1) (σ 4) h := (kseq (b := c6) rfl (fun σ h => n6_eq k G σ h)).trans (n5_eq0 k G σ h)
@[simp] def n3 {R : Type} (k : Nat) (G : KT1 R) (v0 v1 v4 : GV) (h : Heap) : Option R := n5 k (fun x v1 v4 h => kx x (n4 k G v1 h) (G x v4 h)) v0 v1 v4 h
theorem n3_eq {R : Type} (k : Nat) (G : KT1 R) (σ : GS) (h : Heap) : KC k 27 c3 σ h (fun x σ h => G x (σ 4) h) = n3 k G (σ 0) (σ 1) (σ 4) h := (kseq (b := c4) rfl (fun σ h => n4_eq k G σ h)).trans (n5_eq k (fun x v1 v4 h => kx x (n4 k G v1 h) (G x v4 h)) σ h)
noncomputable def c15 : Code := cL c2
@[simp] def n2 {R : Type} (k : Nat) (G : KT1 R) (v0 v1 v4 : GV) (h : Heap) : Option R := (kbin .lss v1 (.int .i64 0)).bind fun v11 => kcond v11 (G .ret (.int .i64 (-1)) h) (n3 k G v0 v1 v4 h)
theorem n2_eq0 {R : Type} (k : Nat) (G : KT1 R) (σ : GS) (h : Heap) : KC k 27 c15 σ h (fun x σ h => kx x (n3 k G (σ 0) (σ 1) (σ 4) h) (G x (σ 4) h)) = n2 k G (σ 0) (σ 1) (σ 4) h := by kernel_rfl
theorem n2_eq {R : Type} (k : Nat) (G : KT1 R) (σ : GS) (h : Heap) : KC k 27 c2 σ h (fun x σ h => G x (σ 4) h) = n2 k G (σ 0) (σ 1) (σ 4) h := (kseq (b := c3) rfl (fun σ h => n3_eq k G σ h)).trans (n2_eq0 k G σ h)
noncomputable def c16 : Code := cL c1
@[simp] def n1 {R : Type} (k : Nat) (G : KT1 R) (v0 v1 v4 : GV) (h : Heap) : Option R := (klen v0).bind fun v8 => (kbin .sub v1 v8).bind fun v9 => n2 k G v0 v9 v4 h
theorem n1_eq0 {R : Type} (k : Nat) (G : KT1 R) (σ : GS) (h : Heap) : KC k 27 c16 σ h (fun x σ h => kx x (n2 k G (σ 0) (σ 1) (σ 4) h) (G x (σ 4) h)) = n1 k G (σ 0) (σ 1) (σ 4) h := by kernel_rfl
theorem n1_eq {R : Type} (k : Nat) (G : KT1 R) (σ : GS) (h : Heap) : KC k 27 c1 σ h (fun x σ h => G x (σ 4) h) = n1 k G (σ 0) (σ 1) (σ 4) h := (kseq (b := c2) rfl (fun σ h => n2_eq k G σ h)).trans (n1_eq0 k G σ h)
noncomputable def c17 : Code := cL c0
@[simp] def n0 {R : Type} (k : Nat) (G : KT1 R) (v0 v1 : GV) (h : Heap) : Option R := n1 k G v0 v1 (.int .i64 0) h
theorem n0_eq0 {R : Type} (k : Nat) (G : KT1 R) (σ : GS) (h : Heap) : KC k 27 c17 σ h (fun x σ h => kx x (n1 k G (σ 0) (σ 1) (σ 4) h) (G x (σ 4) h)) = n0 k G (σ 0) (σ 1) h := by kernel_rfl
theorem n0_eq {R : Type} (k : Nat) (G : KT1 R) (σ : GS) (h : Heap) : KC k 27 c0 σ h (fun x σ h => G x (σ 4) h) = n0 k G (σ 0) (σ 1) h := (kseq (b := c1) rfl (fun σ h => n1_eq k G σ h)).trans (n0_eq0 k G σ h)
def run {R : Type} (k : Nat) (a0 : GV) (a1 : GV) (h : Heap) (fin : GV → Heap → Option R) : Option R := n0 k (fun x v4 h => kend x (fin v4 h)) a0 a1 h
theorem run_eq {R : Type} (k : Nat) (a0 : GV) (a1 : GV) (h : Heap) (fin : GV → Heap → Option R) : kfun PP cfg NN HH k fn.laws_szStringSS [a0, a1] h fin = run k a0 a1 h fin := (kfun_eq (nt := 27) (c := c0) (show PP.funcs[fn.laws_szStringSS]? = some Try.f54 by kernel_rfl) (by kernel_rfl) (by kernel_rfl) (fun x σ h => by cases x <;> kernel_rfl)).trans (n0_eq k (fun x v4 h => kend x (fin v4 h)) _ h)
theorem gives {k : Nat} {a0 : GV} {a1 : GV} {v : GV} (e : run k a0 a1 [] finN = some v) : NN fn.laws_szStringSS [a0, a1] = some v := nω_of (by kernel_rfl) ((run_eq k a0 a1 [] finN).trans e)
end S.laws_szStringSS
/-! laws_szInt64SS -/
namespace S.laws_szInt64SS
noncomputable def c0 : Code := bodyOf Try.f55
noncomputable def c1 : Code := cR c0
noncomputable def c2 : Code := cR c1
noncomputable def c3 : Code := cR c2
noncomputable def c4 : Code := cR c3
@[simp] def n4 {R : Type} (k : Nat) (G : KT1 R) (v1 : GV) (h : Heap) : Option R := G .ret v1 h
theorem n4_eq {R : Type} (k : Nat) (G : KT1 R) (σ : GS) (h : Heap) : KC k 27 c4 σ h (fun x σ h => G x (σ 4) h) = n4 k G (σ 1) h := by kernel_rfl
noncomputable def c5 : Code := cL c3
noncomputable def c6 : Code := cR c5
noncomputable def c7 : Code := cL c6
noncomputable def c8 : Code := cL c7
noncomputable def c9 : Code := cR c8
noncomputable def c10 : Code := cR c9
@[simp] def n10 {R : Type} (k : Nat) (G : KT4 R) (v0 v1 v4 v5 : GV) (h : Heap) : Option R := (kbin .add v5 (.int .i64 1)).bind fun v17 => G .nrm v0 v1 v4 v17 h
theorem n10_eq {R : Type} (k : Nat) (G : KT4 R) (σ : GS) (h : Heap) : KC k 27 c10 σ h (fun x σ h => G x (σ 0) (σ 1) (σ 4) (σ 5) h) = n10 k G (σ 0) (σ 1) (σ 4) (σ 5) h := by kernel_rfl
noncomputable def c11 : Code := cL c9
noncomputable def c12 : Code := cL c11
@[simp] def n12 {R : Type} (k : Nat) (G : KT4 R) (v0 v1 v4 v5 : GV) (h : Heap) : Option R := (kia 1 v0 v5).bind fun v20 => (kload1 h v20).bind fun v21 => (kN NN fn.laws_szInt64S [v21, v1] h).bind fun v23 => (kbin .lss v23 (.int .i64 0)).bind fun v25 => kcond v25 (G .ret v0 v23 (.int .i64 (-1)) v5 h) (G .nrm v0 v23 v4 v5 h)
theorem n12_eq {R : Type} (k : Nat) (G : KT4 R) (σ : GS) (h : Heap) : KC k 27 c12 σ h (fun x σ h => G x (σ 0) (σ 1) (σ 4) (σ 5) h) = n12 k G (σ 0) (σ 1) (σ 4) (σ 5) h := by kernel_rfl
@[simp] def n11 {R : Type} (k : Nat) (G : KT4 R) (v0 v1 v4 v5 : GV) (h : Heap) : Option R := n12 k (fun x v0 v1 v4 v5 h => kb 1 x fun x => G x v0 v1 v4 v5 h) v0 v1 v4 v5 h
theorem n11_eq {R : Type} (k : Nat) (G : KT4 R) (σ : GS) (h : Heap) : KC k 27 c11 σ h (fun x σ h => G x (σ 0) (σ 1) (σ 4) (σ 5) h) = n11 k G (σ 0) (σ 1) (σ 4) (σ 5) h := (kblock_eq (a := c12) rfl).trans (n12_eq k (fun x v0 v1 v4 v5 h => kb 1 x fun x => G x v0 v1 v4 v5 h) σ h)
@[simp] def n9 {R : Type} (k : Nat) (G : KT4 R) (v0 v1 v4 v5 : GV) (h : Heap) : Option R := n11 k (fun x v0 v1 v4 v5 h => kx x (n10 k G v0 v1 v4 v5 h) (G x v0 v1 v4 v5 h)) v0 v1 v4 v5 h
theorem n9_eq {R : Type} (k : Nat) (G : KT4 R) (σ : GS) (h : Heap) : KC k 27 c9 σ h (fun x σ h => G x (σ 0) (σ 1) (σ 4) (σ 5) h) = n9 k G (σ 0) (σ 1) (σ 4) (σ 5) h := (kseq (b := c10) rfl (fun σ h => n10_eq k G σ h)).trans (n11_eq k (fun x v0 v1 v4 v5 h => kx x (n10 k G v0 v1 v4 v5 h) (G x v0 v1 v4 v5 h)) σ h)
noncomputable def c13 : Code := cL c8
@[simp] def n8 {R : Type} (k : Nat) (G : KT4 R) (v0 v1 v4 v5 : GV) (h : Heap) : Option R := (klen v0).bind fun v14 => (kbin .lss v5 v14).bind fun v15 => kcond v15 (n9 k G v0 v1 v4 v5 h) (G (.ext 0) v0 v1 v4 v5 h)
theorem n8_eq0 {R : Type} (k : Nat) (G : KT4 R) (σ : GS) (h : Heap) : KC k 27 c13 σ h (fun x σ h => kx x (n9 k G (σ 0) (σ 1) (σ 4) (σ 5) h) (G x (σ 0) (σ 1) (σ 4) (σ 5) h)) = n8 k G (σ 0) (σ 1) (σ 4) (σ 5) h := by kernel_rfl
theorem n8_eq {R : Type} (k : Nat) (G : KT4 R) (σ : GS) (h : Heap) : KC k 27 c8 σ h (fun x σ h => G x (σ 0) (σ 1) (σ 4) (σ 5) h) = n8 k G (σ 0) (σ 1) (σ 4) (σ 5) h := (kseq (b := c9) rfl (fun σ h => n9_eq k G σ h)).trans (n8_eq0 k G σ h)
def l7 {R : Type} (k : Nat) (G : KT2 R) : Nat → GV → GV → GV → GV → Heap → Option R
  | 0, _, _, _, _, _ => none
  | r + 1, v0, v1, v4, v5, h => n8 k (fun x v0 v1 v4 v5 h => kx x (l7 k G r v0 v1 v4 v5 h) (G x v1 v4 h)) v0 v1 v4 v5 h
theorem l7_eq {R : Type} (k : Nat) (G : KT2 R) : ∀ (r : Nat) (σ : GS) (h : Heap), kloop (fun σ h K => KC k 27 c8 σ h K) r σ h (fun x σ h => G x (σ 1) (σ 4) h) = l7 k G r (σ 0) (σ 1) (σ 4) (σ 5) h
  | 0, _, _ => rfl
  | r + 1, σ, h => (kloop_eq (fun σ h => l7_eq k G r σ h)).trans (n8_eq k (fun x v0 v1 v4 v5 h => kx x (l7 k G r v0 v1 v4 v5 h) (G x v1 v4 h)) σ h)
@[simp] def n7 {R : Type} (k : Nat) (G : KT2 R) (v0 v1 v4 v5 : GV) (h : Heap) : Option R := l7 k G k v0 v1 v4 v5 h
theorem n7_eq {R : Type} (k : Nat) (G : KT2 R) (σ : GS) (h : Heap) : KC k 27 c7 σ h (fun x σ h => G x (σ 1) (σ 4) h) = n7 k G (σ 0) (σ 1) (σ 4) (σ 5) h := (kloopc_eq (a := c8) rfl).trans (l7_eq k G k σ h)
@[simp] def n6 {R : Type} (k : Nat) (G : KT2 R) (v0 v1 v4 v5 : GV) (h : Heap) : Option R := n7 k (fun x v1 v4 h => kb 0 x fun x => G x v1 v4 h) v0 v1 v4 v5 h
theorem n6_eq {R : Type} (k : Nat) (G : KT2 R) (σ : GS) (h : Heap) : KC k 27 c6 σ h (fun x σ h => G x (σ 1) (σ 4) h) = n6 k G (σ 0) (σ 1) (σ 4) (σ 5) h := (kblock_eq (a := c7) rfl).trans (n7_eq k (fun x v1 v4 h => kb 0 x fun x => G x v1 v4 h) σ h)
noncomputable def c14 : Code := cL c5
@[simp] def n5 {R : Type} (k : Nat) (G : KT2 R) (v0 v1 v4 : GV) (h : Heap) : Option R := n6 k G v0 v1 v4 (.int .i64 0) h
theorem n5_eq0 {R : Type} (k : Nat) (G : KT2 R) (σ : GS) (h : Heap) : KC k 27 c14 σ h (fun x σ h => kx x (n6 k G (σ 0) (σ 1) (σ 4) (σ 5) h) (G x (σ 1) (σ 4) h)) = n5 k G (σ 0) (σ 1) (σ 4) h := by kernel_rfl
theorem n5_eq {R : Type} (k : Nat) (G : KT2 R) (σ : GS) (h : Heap) : KC k 27 c5 σ h (fun x σ h => G x (σ 1) (σ 4) h) = n5 k G (σ 0) (σ 1) (σ 4) h := (kseq (b := c6) rfl (fun σ h => n6_eq k G σ h)).trans (n5_eq0 k G σ h)
@[simp] def n3 {R : Type} (k : Nat) (G : KT1 R) (v0 v1 v4 : GV) (h : Heap) : Option R := n5 k (fun x v1 v4 h => kx x (n4 k G v1 h) (G x v4 h)) v0 v1 v4 h
theorem n3_eq {R : Type} (k : Nat) (G : KT1 R) (σ : GS) (h : Heap) : KC k 27 c3 σ h (fun x σ h => G x (σ 4) h) = n3 k G (σ 0) (σ 1) (σ 4) h := (kseq (b := c4) rfl (fun σ h => n4_eq k G σ h)).trans (n5_eq k (fun x v1 v4 h => kx x (n4 k G v1 h) (G x v4 h)) σ h)
noncomputable def c15 : Code := cL c2
@[simp] def n2 {R : Type} (k : Nat) (G : KT1 R) (v0 v1 v4 : GV) (h : Heap) : Option R := (kbin .lss v1 (.int .i64 0)).bind fun v11 => kcond v11 (G .ret (.int .i64 (-1)) h) (n3 k G v0 v1 v4 h)
theorem n2_eq0 {R : Type} (k : Nat) (G : KT1 R) (σ : GS) (h : Heap) : KC k 27 c15 σ h (fun x σ h => kx x (n3 k G (σ 0) (σ 1) (σ 4) h) (G x (σ 4) h)) = n2 k G (σ 0) (σ 1) (σ 4) h := by kernel_rfl
theorem n2_eq {R : Type} (k : Nat) (G : KT1 R) (σ : GS) (h : Heap) : KC k 27 c2 σ h (fun x σ h => G x (σ 4) h) = n2 k G (σ 0) (σ 1) (σ 4) h := (kseq (b := c3) rfl (fun σ h => n3_eq k G σ h)).trans (n2_eq0 k G σ h)
noncomputable def c16 : Code := cL c1
@[simp] def n1 {R : Type} (k : Nat) (G : KT1 R) (v0 v1 v4 : GV) (h : Heap) : Option R := (klen v0).bind fun v8 => (kbin .sub v1 v8).bind fun v9 => n2 k G v0 v9 v4 h
theorem n1_eq0 {R : Type} (k : Nat) (G : KT1 R) (σ : GS) (h : Heap) : KC k 27 c16 σ h (fun x σ h => kx x (n2 k G (σ 0) (σ 1) (σ 4) h) (G x (σ 4) h)) = n1 k G (σ 0) (σ 1) (σ 4) h := by kernel_rfl
theorem n1_eq {R : Type} (k : Nat) (G : KT1 R) (σ : GS) (h : Heap) : KC k 27 c1 σ h (fun x σ h => G x (σ 4) h) = n1 k G (σ 0) (σ 1) (σ 4) h := (kseq (b := c2) rfl (fun σ h => n2_eq k G σ h)).trans (n1_eq0 k G σ h)
noncomputable def c17 : Code := cL c0
@[simp] def n0 {R : Type} (k : Nat) (G : KT1 R) (v0 v1 : GV) (h : Heap) : Option R := n1 k G v0 v1 (.int .i64 0) h
theorem n0_eq0 {R : Type} (k : Nat) (G : KT1 R) (σ : GS) (h : Heap) : KC k 27 c17 σ h (fun x σ h => kx x (n1 k G (σ 0) (σ 1) (σ 4) h) (G x (σ 4) h)) = n0 k G (σ 0) (σ 1) h := by kernel_rfl
theorem n0_eq {R : Type} (k : Nat) (G : KT1 R) (σ : GS) (h : Heap) : KC k 27 c0 σ h (fun x σ h => G x (σ 4) h) = n0 k G (σ 0) (σ 1) h := (kseq (b := c1) rfl (fun σ h => n1_eq k G σ h)).trans (n0_eq0 k G σ h)
def run {R : Type} (k : Nat) (a0 : GV) (a1 : GV) (h : Heap) (fin : GV → Heap → Option R) : Option R := n0 k (fun x v4 h => kend x (fin v4 h)) a0 a1 h
theorem run_eq {R : Type} (k : Nat) (a0 : GV) (a1 : GV) (h : Heap) (fin : GV → Heap → Option R) : kfun PP cfg NN HH k fn.laws_szInt64SS [a0, a1] h fin = run k a0 a1 h fin := (kfun_eq (nt := 27) (c := c0) (show PP.funcs[fn.laws_szInt64SS]? = some Try.f55 by kernel_rfl) (by kernel_rfl) (by kernel_rfl) (fun x σ h => by cases x <;> kernel_rfl)).trans (n0_eq k (fun x v4 h => kend x (fin v4 h)) _ h)
theorem gives {k : Nat} {a0 : GV} {a1 : GV} {v : GV} (e : run k a0 a1 [] finN = some v) : NN fn.laws_szInt64SS [a0, a1] = some v := nω_of (by kernel_rfl) ((run_eq k a0 a1 [] finN).trans e)
end S.laws_szInt64SS
/-! laws_toServerS -/
namespace S.laws_toServerS
noncomputable def c0 : Code := bodyOf Try.f57
noncomputable def c1 : Code := cR c0
noncomputable def c2 : Code := cR c1
noncomputable def c3 : Code := cR c2
@[simp] def n3 {R : Type} (k : Nat) (G : KT1 R) (v3 : GV) (h : Heap) : Option R := G .ret v3 h
theorem n3_eq {R : Type} (k : Nat) (G : KT1 R) (σ : GS) (h : Heap) : KC k 23 c3 σ h (fun x σ h => G x (σ 2) h) = n3 k G (σ 3) h := by kernel_rfl
noncomputable def c4 : Code := cL c2
noncomputable def c5 : Code := cR c4
noncomputable def c6 : Code := cL c5
noncomputable def c7 : Code := cL c6
noncomputable def c8 : Code := cR c7
noncomputable def c9 : Code := cR c8
@[simp] def n9 {R : Type} (k : Nat) (G : KT4 R) (v0 v2 v3 v4 : GV) (h : Heap) : Option R := (kbin .add v4 (.int .i64 1)).bind fun v13 => G .nrm v0 v2 v3 v13 h
theorem n9_eq {R : Type} (k : Nat) (G : KT4 R) (σ : GS) (h : Heap) : KC k 23 c9 σ h (fun x σ h => G x (σ 0) (σ 2) (σ 3) (σ 4) h) = n9 k G (σ 0) (σ 2) (σ 3) (σ 4) h := by kernel_rfl
noncomputable def c10 : Code := cL c8
noncomputable def c11 : Code := cL c10
@[simp] def n11 {R : Type} (k : Nat) (G : KT4 R) (v0 v2 v3 v4 : GV) (h : Heap) : Option R := (kia 2 v0 v4).bind fun v18 => (kloadA 2 h v18).bind fun v19 => (kF false HH fn.laws_toServer [v19] h).bind fun r => kr r fun v20 h => (kia 2 v3 v4).bind fun v21 => (kstore 2 h v21 v20).bind fun h => G .nrm v0 v2 v3 v4 h
theorem n11_eq {R : Type} (k : Nat) (G : KT4 R) (σ : GS) (h : Heap) : KC k 23 c11 σ h (fun x σ h => G x (σ 0) (σ 2) (σ 3) (σ 4) h) = n11 k G (σ 0) (σ 2) (σ 3) (σ 4) h := by kernel_rfl
@[simp] def n10 {R : Type} (k : Nat) (G : KT4 R) (v0 v2 v3 v4 : GV) (h : Heap) : Option R := n11 k (fun x v0 v2 v3 v4 h => kb 1 x fun x => G x v0 v2 v3 v4 h) v0 v2 v3 v4 h
theorem n10_eq {R : Type} (k : Nat) (G : KT4 R) (σ : GS) (h : Heap) : KC k 23 c10 σ h (fun x σ h => G x (σ 0) (σ 2) (σ 3) (σ 4) h) = n10 k G (σ 0) (σ 2) (σ 3) (σ 4) h := (kblock_eq (a := c11) rfl).trans (n11_eq k (fun x v0 v2 v3 v4 h => kb 1 x fun x => G x v0 v2 v3 v4 h) σ h)
@[simp] def n8 {R : Type} (k : Nat) (G : KT4 R) (v0 v2 v3 v4 : GV) (h : Heap) : Option R := n10 k (fun x v0 v2 v3 v4 h => kx x (n9 k G v0 v2 v3 v4 h) (G x v0 v2 v3 v4 h)) v0 v2 v3 v4 h
theorem n8_eq {R : Type} (k : Nat) (G : KT4 R) (σ : GS) (h : Heap) : KC k 23 c8 σ h (fun x σ h => G x (σ 0) (σ 2) (σ 3) (σ 4) h) = n8 k G (σ 0) (σ 2) (σ 3) (σ 4) h := (kseq (b := c9) rfl (fun σ h => n9_eq k G σ h)).trans (n10_eq k (fun x v0 v2 v3 v4 h => kx x (n9 k G v0 v2 v3 v4 h) (G x v0 v2 v3 v4 h)) σ h)
noncomputable def c12 : Code := cL c7
@[simp] def n7 {R : Type} (k : Nat) (G : KT4 R) (v0 v2 v3 v4 : GV) (h : Heap) : Option R := (klen v0).bind fun v10 => (kbin .lss v4 v10).bind fun v11 => kcond v11 (n8 k G v0 v2 v3 v4 h) (G (.ext 0) v0 v2 v3 v4 h)
theorem n7_eq0 {R : Type} (k : Nat) (G : KT4 R) (σ : GS) (h : Heap) : KC k 23 c12 σ h (fun x σ h => kx x (n8 k G (σ 0) (σ 2) (σ 3) (σ 4) h) (G x (σ 0) (σ 2) (σ 3) (σ 4) h)) = n7 k G (σ 0) (σ 2) (σ 3) (σ 4) h := by kernel_rfl
theorem n7_eq {R : Type} (k : Nat) (G : KT4 R) (σ : GS) (h : Heap) : KC k 23 c7 σ h (fun x σ h => G x (σ 0) (σ 2) (σ 3) (σ 4) h) = n7 k G (σ 0) (σ 2) (σ 3) (σ 4) h := (kseq (b := c8) rfl (fun σ h => n8_eq k G σ h)).trans (n7_eq0 k G σ h)
def l6 {R : Type} (k : Nat) (G : KT2 R) : Nat → GV → GV → GV → GV → Heap → Option R
  | 0, _, _, _, _, _ => none
  | r + 1, v0, v2, v3, v4, h => n7 k (fun x v0 v2 v3 v4 h => kx x (l6 k G r v0 v2 v3 v4 h) (G x v2 v3 h)) v0 v2 v3 v4 h
theorem l6_eq {R : Type} (k : Nat) (G : KT2 R) : ∀ (r : Nat) (σ : GS) (h : Heap), kloop (fun σ h K => KC k 23 c7 σ h K) r σ h (fun x σ h => G x (σ 2) (σ 3) h) = l6 k G r (σ 0) (σ 2) (σ 3) (σ 4) h
  | 0, _, _ => rfl
  | r + 1, σ, h => (kloop_eq (fun σ h => l6_eq k G r σ h)).trans (n7_eq k (fun x v0 v2 v3 v4 h => kx x (l6 k G r v0 v2 v3 v4 h) (G x v2 v3 h)) σ h)
@[simp] def n6 {R : Type} (k : Nat) (G : KT2 R) (v0 v2 v3 v4 : GV) (h : Heap) : Option R := l6 k G k v0 v2 v3 v4 h
theorem n6_eq {R : Type} (k : Nat) (G : KT2 R) (σ : GS) (h : Heap) : KC k 23 c6 σ h (fun x σ h => G x (σ 2) (σ 3) h) = n6 k G (σ 0) (σ 2) (σ 3) (σ 4) h := (kloopc_eq (a := c7) rfl).trans (l6_eq k G k σ h)
@[simp] def n5 {R : Type} (k : Nat) (G : KT2 R) (v0 v2 v3 v4 : GV) (h : Heap) : Option R := n6 k (fun x v2 v3 h => kb 0 x fun x => G x v2 v3 h) v0 v2 v3 v4 h
theorem n5_eq {R : Type} (k : Nat) (G : KT2 R) (σ : GS) (h : Heap) : KC k 23 c5 σ h (fun x σ h => G x (σ 2) (σ 3) h) = n5 k G (σ 0) (σ 2) (σ 3) (σ 4) h := (kblock_eq (a := c6) rfl).trans (n6_eq k (fun x v2 v3 h => kb 0 x fun x => G x v2 v3 h) σ h)
noncomputable def c13 : Code := cL c4
@[simp] def n4 {R : Type} (k : Nat) (G : KT2 R) (v0 v2 v3 : GV) (h : Heap) : Option R := n5 k G v0 v2 v3 (.int .i64 0) h
theorem n4_eq0 {R : Type} (k : Nat) (G : KT2 R) (σ : GS) (h : Heap) : KC k 23 c13 σ h (fun x σ h => kx x (n5 k G (σ 0) (σ 2) (σ 3) (σ 4) h) (G x (σ 2) (σ 3) h)) = n4 k G (σ 0) (σ 2) (σ 3) h := by kernel_rfl
theorem n4_eq {R : Type} (k : Nat) (G : KT2 R) (σ : GS) (h : Heap) : KC k 23 c4 σ h (fun x σ h => G x (σ 2) (σ 3) h) = n4 k G (σ 0) (σ 2) (σ 3) h := (kseq (b := c5) rfl (fun σ h => n5_eq k G σ h)).trans (n4_eq0 k G σ h)
@[simp] def n2 {R : Type} (k : Nat) (G : KT1 R) (v0 v2 v3 : GV) (h : Heap) : Option R := n4 k (fun x v2 v3 h => kx x (n3 k G v3 h) (G x v2 h)) v0 v2 v3 h
theorem n2_eq {R : Type} (k : Nat) (G : KT1 R) (σ : GS) (h : Heap) : KC k 23 c2 σ h (fun x σ h => G x (σ 2) h) = n2 k G (σ 0) (σ 2) (σ 3) h := (kseq (b := c3) rfl (fun σ h => n3_eq k G σ h)).trans (n4_eq k (fun x v2 v3 h => kx x (n3 k G v3 h) (G x v2 h)) σ h)
noncomputable def c14 : Code := cL c1
@[simp] def n1 {R : Type} (k : Nat) (G : KT1 R) (v0 v2 : GV) (h : Heap) : Option R := (klen v0).bind fun v6 => (kmake [.nils, (.int .i64 0)] 2 32 v6 v6 h).bind fun r => kr r fun v7 h => n2 k G v0 v2 v7 h
theorem n1_eq0 {R : Type} (k : Nat) (G : KT1 R) (σ : GS) (h : Heap) : KC k 23 c14 σ h (fun x σ h => kx x (n2 k G (σ 0) (σ 2) (σ 3) h) (G x (σ 2) h)) = n1 k G (σ 0) (σ 2) h := by kernel_rfl
theorem n1_eq {R : Type} (k : Nat) (G : KT1 R) (σ : GS) (h : Heap) : KC k 23 c1 σ h (fun x σ h => G x (σ 2) h) = n1 k G (σ 0) (σ 2) h := (kseq (b := c2) rfl (fun σ h => n2_eq k G σ h)).trans (n1_eq0 k G σ h)
noncomputable def c15 : Code := cL c0
@[simp] def n0 {R : Type} (k : Nat) (G : KT1 R) (v0 : GV) (h : Heap) : Option R := n1 k G v0 .nils h
theorem n0_eq0 {R : Type} (k : Nat) (G : KT1 R) (σ : GS) (h : Heap) : KC k 23 c15 σ h (fun x σ h => kx x (n1 k G (σ 0) (σ 2) h) (G x (σ 2) h)) = n0 k G (σ 0) h := by kernel_rfl
theorem n0_eq {R : Type} (k : Nat) (G : KT1 R) (σ : GS) (h : Heap) : KC k 23 c0 σ h (fun x σ h => G x (σ 2) h) = n0 k G (σ 0) h := (kseq (b := c1) rfl (fun σ h => n1_eq k G σ h)).trans (n0_eq0 k G σ h)
def run {R : Type} (k : Nat) (a0 : GV) (h : Heap) (fin : GV → Heap → Option R) : Option R := n0 k (fun x v2 h => kend x (fin v2 h)) a0 h
theorem run_eq {R : Type} (k : Nat) (a0 : GV) (h : Heap) (fin : GV → Heap → Option R) : kfun PP cfg NN HH k fn.laws_toServerS [a0] h fin = run k a0 h fin := (kfun_eq (nt := 23) (c := c0) (show PP.funcs[fn.laws_toServerS]? = some Try.f57 by kernel_rfl) (by kernel_rfl) (by kernel_rfl) (fun x σ h => by cases x <;> kernel_rfl)).trans (n0_eq k (fun x v2 h => kend x (fin v2 h)) _ h)
theorem gives {k : Nat} {a0 : GV} {b : Nat} {q : GV × List (List GV)} (e : run k a0 [] (finO b) = some q) : OO fn.laws_toServerS [a0] b = some q := oω_of ((run_eq k a0 [] (finO b)).trans e)
end S.laws_toServerS
/-! laws_toStringSS -/
namespace S.laws_toStringSS
noncomputable def c0 : Code := bodyOf Try.f58
noncomputable def c1 : Code := cR c0
noncomputable def c2 : Code := cR c1
noncomputable def c3 : Code := cR c2
@[simp] def n3 {R : Type} (k : Nat) (G : KT1 R) (v3 : GV) (h : Heap) : Option R := G .ret v3 h
theorem n3_eq {R : Type} (k : Nat) (G : KT1 R) (σ : GS) (h : Heap) : KC k 23 c3 σ h (fun x σ h => G x (σ 2) h) = n3 k G (σ 3) h := by kernel_rfl
noncomputable def c4 : Code := cL c2
noncomputable def c5 : Code := cR c4
noncomputable def c6 : Code := cL c5
noncomputable def c7 : Code := cL c6
noncomputable def c8 : Code := cR c7
noncomputable def c9 : Code := cR c8
@[simp] def n9 {R : Type} (k : Nat) (G : KT4 R) (v0 v2 v3 v4 : GV) (h : Heap) : Option R := (kbin .add v4 (.int .i64 1)).bind fun v13 => G .nrm v0 v2 v3 v13 h
theorem n9_eq {R : Type} (k : Nat) (G : KT4 R) (σ : GS) (h : Heap) : KC k 23 c9 σ h (fun x σ h => G x (σ 0) (σ 2) (σ 3) (σ 4) h) = n9 k G (σ 0) (σ 2) (σ 3) (σ 4) h := by kernel_rfl
noncomputable def c10 : Code := cL c8
noncomputable def c11 : Code := cL c10
@[simp] def n11 {R : Type} (k : Nat) (G : KT4 R) (v0 v2 v3 v4 : GV) (h : Heap) : Option R := (kia 1 v0 v4).bind fun v18 => (kload1 h v18).bind fun v19 => (kF false HH fn.laws_toStringS [v19] h).bind fun r => kr r fun v20 h => (kia 1 v3 v4).bind fun v21 => (kstore 1 h v21 v20).bind fun h => G .nrm v0 v2 v3 v4 h
theorem n11_eq {R : Type} (k : Nat) (G : KT4 R) (σ : GS) (h : Heap) : KC k 23 c11 σ h (fun x σ h => G x (σ 0) (σ 2) (σ 3) (σ 4) h) = n11 k G (σ 0) (σ 2) (σ 3) (σ 4) h := by kernel_rfl
@[simp] def n10 {R : Type} (k : Nat) (G : KT4 R) (v0 v2 v3 v4 : GV) (h : Heap) : Option R := n11 k (fun x v0 v2 v3 v4 h => kb 1 x fun x => G x v0 v2 v3 v4 h) v0 v2 v3 v4 h
theorem n10_eq {R : Type} (k : Nat) (G : KT4 R) (σ : GS) (h : Heap) : KC k 23 c10 σ h (fun x σ h => G x (σ 0) (σ 2) (σ 3) (σ 4) h) = n10 k G (σ 0) (σ 2) (σ 3) (σ 4) h := (kblock_eq (a := c11) rfl).trans (n11_eq k (fun x v0 v2 v3 v4 h => kb 1 x fun x => G x v0 v2 v3 v4 h) σ h)
@[simp] def n8 {R : Type} (k : Nat) (G : KT4 R) (v0 v2 v3 v4 : GV) (h : Heap) : Option R := n10 k (fun x v0 v2 v3 v4 h => kx x (n9 k G v0 v2 v3 v4 h) (G x v0 v2 v3 v4 h)) v0 v2 v3 v4 h
theorem n8_eq {R : Type} (k : Nat) (G : KT4 R) (σ : GS) (h : Heap) : KC k 23 c8 σ h (fun x σ h => G x (σ 0) (σ 2) (σ 3) (σ 4) h) = n8 k G (σ 0) (σ 2) (σ 3) (σ 4) h := (kseq (b := c9) rfl (fun σ h => n9_eq k G σ h)).trans (n10_eq k (fun x v0 v2 v3 v4 h => kx x (n9 k G v0 v2 v3 v4 h) (G x v0 v2 v3 v4 h)) σ h)
noncomputable def c12 : Code := cL c7
@[simp] def n7 {R : Type} (k : Nat) (G : KT4 R) (v0 v2 v3 v4 : GV) (h : Heap) : Option R := (klen v0).bind fun v10 => (kbin .lss v4 v10).bind fun v11 => kcond v11 (n8 k G v0 v2 v3 v4 h) (G (.ext 0) v0 v2 v3 v4 h)
theorem n7_eq0 {R : Type} (k : Nat) (G : KT4 R) (σ : GS) (h : Heap) : KC k 23 c12 σ h (fun x σ h => kx x (n8 k G (σ 0) (σ 2) (σ 3) (σ 4) h) (G x (σ 0) (σ 2) (σ 3) (σ 4) h)) = n7 k G (σ 0) (σ 2) (σ 3) (σ 4) h := by kernel_rfl
theorem n7_eq {R : Type} (k : Nat) (G : KT4 R) (σ : GS) (h : Heap) : KC k 23 c7 σ h (fun x σ h => G x (σ 0) (σ 2) (σ 3) (σ 4) h) = n7 k G (σ 0) (σ 2) (σ 3) (σ 4) h := (kseq (b := c8) rfl (fun σ h => n8_eq k G σ h)).trans (n7_eq0 k G σ h)
def l6 {R : Type} (k : Nat) (G : KT2 R) : Nat → GV → GV → GV → GV → Heap → Option R
  | 0, _, _, _, _, _ => none
  | r + 1, v0, v2, v3, v4, h => n7 k (fun x v0 v2 v3 v4 h => kx x (l6 k G r v0 v2 v3 v4 h) (G x v2 v3 h)) v0 v2 v3 v4 h
theorem l6_eq {R : Type} (k : Nat) (G : KT2 R) : ∀ (r : Nat) (σ : GS) (h : Heap), kloop (fun σ h K => KC k 23 c7 σ h K) r σ h (fun x σ h => G x (σ 2) (σ 3) h) = l6 k G r (σ 0) (σ 2) (σ 3) (σ 4) h
  | 0, _, _ => rfl
  | r + 1, σ, h => (kloop_eq (fun σ h => l6_eq k G r σ h)).trans (n7_eq k (fun x v0 v2 v3 v4 h => kx x (l6 k G r v0 v2 v3 v4 h) (G x v2 v3 h)) σ h)
@[simp] def n6 {R : Type} (k : Nat) (G : KT2 R) (v0 v2 v3 v4 : GV) (h : Heap) : Option R := l6 k G k v0 v2 v3 v4 h
theorem n6_eq {R : Type} (k : Nat) (G : KT2 R) (σ : GS) (h : Heap) : KC k 23 c6 σ h (fun x σ h => G x (σ 2) (σ 3) h) = n6 k G (σ 0) (σ 2) (σ 3) (σ 4) h := (kloopc_eq (a := c7) rfl).trans (l6_eq k G k σ h)
@[simp] def n5 {R : Type} (k : Nat) (G : KT2 R) (v0 v2 v3 v4 : GV) (h : Heap) : Option R := n6 k (fun x v2 v3 h => kb 0 x fun x => G x v2 v3 h) v0 v2 v3 v4 h
theorem n5_eq {R : Type} (k : Nat) (G : KT2 R) (σ : GS) (h : Heap) : KC k 23 c5 σ h (fun x σ h => G x (σ 2) (σ 3) h) = n5 k G (σ 0) (σ 2) (σ 3) (σ 4) h := (kblock_eq (a := c6) rfl).trans (n6_eq k (fun x v2 v3 h => kb 0 x fun x => G x v2 v3 h) σ h)
noncomputable def c13 : Code := cL c4
@[simp] def n4 {R : Type} (k : Nat) (G : KT2 R) (v0 v2 v3 : GV) (h : Heap) : Option R := n5 k G v0 v2 v3 (.int .i64 0) h
theorem n4_eq0 {R : Type} (k : Nat) (G : KT2 R) (σ : GS) (h : Heap) : KC k 23 c13 σ h (fun x σ h => kx x (n5 k G (σ 0) (σ 2) (σ 3) (σ 4) h) (G x (σ 2) (σ 3) h)) = n4 k G (σ 0) (σ 2) (σ 3) h := by kernel_rfl
theorem n4_eq {R : Type} (k : Nat) (G : KT2 R) (σ : GS) (h : Heap) : KC k 23 c4 σ h (fun x σ h => G x (σ 2) (σ 3) h) = n4 k G (σ 0) (σ 2) (σ 3) h := (kseq (b := c5) rfl (fun σ h => n5_eq k G σ h)).trans (n4_eq0 k G σ h)
@[simp] def n2 {R : Type} (k : Nat) (G : KT1 R) (v0 v2 v3 : GV) (h : Heap) : Option R := n4 k (fun x v2 v3 h => kx x (n3 k G v3 h) (G x v2 h)) v0 v2 v3 h
theorem n2_eq {R : Type} (k : Nat) (G : KT1 R) (σ : GS) (h : Heap) : KC k 23 c2 σ h (fun x σ h => G x (σ 2) h) = n2 k G (σ 0) (σ 2) (σ 3) h := (kseq (b := c3) rfl (fun σ h => n3_eq k G σ h)).trans (n4_eq k (fun x v2 v3 h => kx x (n3 k G v3 h) (G x v2 h)) σ h)
noncomputable def c14 : Code := cL c1
@[simp] def n1 {R : Type} (k : Nat) (G : KT1 R) (v0 v2 : GV) (h : Heap) : Option R := (klen v0).bind fun v6 => (kmake [.nils] 1 24 v6 v6 h).bind fun r => kr r fun v7 h => n2 k G v0 v2 v7 h
theorem n1_eq0 {R : Type} (k : Nat) (G : KT1 R) (σ : GS) (h : Heap) : KC k 23 c14 σ h (fun x σ h => kx x (n2 k G (σ 0) (σ 2) (σ 3) h) (G x (σ 2) h)) = n1 k G (σ 0) (σ 2) h := by kernel_rfl
theorem n1_eq {R : Type} (k : Nat) (G : KT1 R) (σ : GS) (h : Heap) : KC k 23 c1 σ h (fun x σ h => G x (σ 2) h) = n1 k G (σ 0) (σ 2) h := (kseq (b := c2) rfl (fun σ h => n2_eq k G σ h)).trans (n1_eq0 k G σ h)
noncomputable def c15 : Code := cL c0
@[simp] def n0 {R : Type} (k : Nat) (G : KT1 R) (v0 : GV) (h : Heap) : Option R := n1 k G v0 .nils h
theorem n0_eq0 {R : Type} (k : Nat) (G : KT1 R) (σ : GS) (h : Heap) : KC k 23 c15 σ h (fun x σ h => kx x (n1 k G (σ 0) (σ 2) h) (G x (σ 2) h)) = n0 k G (σ 0) h := by kernel_rfl
theorem n0_eq {R : Type} (k : Nat) (G : KT1 R) (σ : GS) (h : Heap) : KC k 23 c0 σ h (fun x σ h => G x (σ 2) h) = n0 k G (σ 0) h := (kseq (b := c1) rfl (fun σ h => n1_eq k G σ h)).trans (n0_eq0 k G σ h)
def run {R : Type} (k : Nat) (a0 : GV) (h : Heap) (fin : GV → Heap → Option R) : Option R := n0 k (fun x v2 h => kend x (fin v2 h)) a0 h
theorem run_eq {R : Type} (k : Nat) (a0 : GV) (h : Heap) (fin : GV → Heap → Option R) : kfun PP cfg NN HH k fn.laws_toStringSS [a0] h fin = run k a0 h fin := (kfun_eq (nt := 23) (c := c0) (show PP.funcs[fn.laws_toStringSS]? = some Try.f58 by kernel_rfl) (by kernel_rfl) (by kernel_rfl) (fun x σ h => by cases x <;> kernel_rfl)).trans (n0_eq k (fun x v2 h => kend x (fin v2 h)) _ h)
theorem gives {k : Nat} {a0 : GV} {b : Nat} {q : GV × List (List GV)} (e : run k a0 [] (finO b) = some q) : OO fn.laws_toStringSS [a0] b = some q := oω_of ((run_eq k a0 [] (finO b)).trans e)
end S.laws_toStringSS
/-! laws_toInt64SS -/
namespace S.laws_toInt64SS
noncomputable def c0 : Code := bodyOf Try.f59
noncomputable def c1 : Code := cR c0
noncomputable def c2 : Code := cR c1
noncomputable def c3 : Code := cR c2
@[simp] def n3 {R : Type} (k : Nat) (G : KT1 R) (v3 : GV) (h : Heap) : Option R := G .ret v3 h
theorem n3_eq {R : Type} (k : Nat) (G : KT1 R) (σ : GS) (h : Heap) : KC k 23 c3 σ h (fun x σ h => G x (σ 2) h) = n3 k G (σ 3) h := by kernel_rfl
noncomputable def c4 : Code := cL c2
noncomputable def c5 : Code := cR c4
noncomputable def c6 : Code := cL c5
noncomputable def c7 : Code := cL c6
noncomputable def c8 : Code := cR c7
noncomputable def c9 : Code := cR c8
@[simp] def n9 {R : Type} (k : Nat) (G : KT4 R) (v0 v2 v3 v4 : GV) (h : Heap) : Option R := (kbin .add v4 (.int .i64 1)).bind fun v13 => G .nrm v0 v2 v3 v13 h
theorem n9_eq {R : Type} (k : Nat) (G : KT4 R) (σ : GS) (h : Heap) : KC k 23 c9 σ h (fun x σ h => G x (σ 0) (σ 2) (σ 3) (σ 4) h) = n9 k G (σ 0) (σ 2) (σ 3) (σ 4) h := by kernel_rfl
noncomputable def c10 : Code := cL c8
noncomputable def c11 : Code := cL c10
@[simp] def n11 {R : Type} (k : Nat) (G : KT4 R) (v0 v2 v3 v4 : GV) (h : Heap) : Option R := (kia 1 v0 v4).bind fun v18 => (kload1 h v18).bind fun v19 => (kF false HH fn.laws_toInt64S [v19] h).bind fun r => kr r fun v20 h => (kia 1 v3 v4).bind fun v21 => (kstore 1 h v21 v20).bind fun h => G .nrm v0 v2 v3 v4 h
theorem n11_eq {R : Type} (k : Nat) (G : KT4 R) (σ : GS) (h : Heap) : KC k 23 c11 σ h (fun x σ h => G x (σ 0) (σ 2) (σ 3) (σ 4) h) = n11 k G (σ 0) (σ 2) (σ 3) (σ 4) h := by kernel_rfl
@[simp] def n10 {R : Type} (k : Nat) (G : KT4 R) (v0 v2 v3 v4 : GV) (h : Heap) : Option R := n11 k (fun x v0 v2 v3 v4 h => kb 1 x fun x => G x v0 v2 v3 v4 h) v0 v2 v3 v4 h
theorem n10_eq {R : Type} (k : Nat) (G : KT4 R) (σ : GS) (h : Heap) : KC k 23 c10 σ h (fun x σ h => G x (σ 0) (σ 2) (σ 3) (σ 4) h) = n10 k G (σ 0) (σ 2) (σ 3) (σ 4) h := (kblock_eq (a := c11) rfl).trans (n11_eq k (fun x v0 v2 v3 v4 h => kb 1 x fun x => G x v0 v2 v3 v4 h) σ h)
@[simp] def n8 {R : Type} (k : Nat) (G : KT4 R) (v0 v2 v3 v4 : GV) (h : Heap) : Option R := n10 k (fun x v0 v2 v3 v4 h => kx x (n9 k G v0 v2 v3 v4 h) (G x v0 v2 v3 v4 h)) v0 v2 v3 v4 h
theorem n8_eq {R : Type} (k : Nat) (G : KT4 R) (σ : GS) (h : Heap) : KC k 23 c8 σ h (fun x σ h => G x (σ 0) (σ 2) (σ 3) (σ 4) h) = n8 k G (σ 0) (σ 2) (σ 3) (σ 4) h := (kseq (b := c9) rfl (fun σ h => n9_eq k G σ h)).trans (n10_eq k (fun x v0 v2 v3 v4 h => kx x (n9 k G v0 v2 v3 v4 h) (G x v0 v2 v3 v4 h)) σ h)
noncomputable def c12 : Code := cL c7
@[simp] def n7 {R : Type} (k : Nat) (G : KT4 R) (v0 v2 v3 v4 : GV) (h : Heap) : Option R := (klen v0).bind fun v10 => (kbin .lss v4 v10).bind fun v11 => kcond v11 (n8 k G v0 v2 v3 v4 h) (G (.ext 0) v0 v2 v3 v4 h)
theorem n7_eq0 {R : Type} (k : Nat) (G : KT4 R) (σ : GS) (h : Heap) : KC k 23 c12 σ h (fun x σ h => kx x (n8 k G (σ 0) (σ 2) (σ 3) (σ 4) h) (G x (σ 0) (σ 2) (σ 3) (σ 4) h)) = n7 k G (σ 0) (σ 2) (σ 3) (σ 4) h := by kernel_rfl
theorem n7_eq {R : Type} (k : Nat) (G : KT4 R) (σ : GS) (h : Heap) : KC k 23 c7 σ h (fun x σ h => G x (σ 0) (σ 2) (σ 3) (σ 4) h) = n7 k G (σ 0) (σ 2) (σ 3) (σ 4) h := (kseq (b := c8) rfl (fun σ h => n8_eq k G σ h)).trans (n7_eq0 k G σ h)
def l6 {R : Type} (k : Nat) (G : KT2 R) : Nat → GV → GV → GV → GV → Heap → Option R
  | 0, _, _, _, _, _ => none
  | r + 1, v0, v2, v3, v4, h => n7 k (fun x v0 v2 v3 v4 h => kx x (l6 k G r v0 v2 v3 v4 h) (G x v2 v3 h)) v0 v2 v3 v4 h
theorem l6_eq {R : Type} (k : Nat) (G : KT2 R) : ∀ (r : Nat) (σ : GS) (h : Heap), kloop (fun σ h K => KC k 23 c7 σ h K) r σ h (fun x σ h => G x (σ 2) (σ 3) h) = l6 k G r (σ 0) (σ 2) (σ 3) (σ 4) h
  | 0, _, _ => rfl
  | r + 1, σ, h => (kloop_eq (fun σ h => l6_eq k G r σ h)).trans (n7_eq k (fun x v0 v2 v3 v4 h => kx x (l6 k G r v0 v2 v3 v4 h) (G x v2 v3 h)) σ h)
@[simp] def n6 {R : Type} (k : Nat) (G : KT2 R) (v0 v2 v3 v4 : GV) (h : Heap) : Option R := l6 k G k v0 v2 v3 v4 h
theorem n6_eq {R : Type} (k : Nat) (G : KT2 R) (σ : GS) (h : Heap) : KC k 23 c6 σ h (fun x σ h => G x (σ 2) (σ 3) h) = n6 k G (σ 0) (σ 2) (σ 3) (σ 4) h := (kloopc_eq (a := c7) rfl).trans (l6_eq k G k σ h)
@[simp] def n5 {R : Type} (k : Nat) (G : KT2 R) (v0 v2 v3 v4 : GV) (h : Heap) : Option R := n6 k (fun x v2 v3 h => kb 0 x fun x => G x v2 v3 h) v0 v2 v3 v4 h
theorem n5_eq {R : Type} (k : Nat) (G : KT2 R) (σ : GS) (h : Heap) : KC k 23 c5 σ h (fun x σ h => G x (σ 2) (σ 3) h) = n5 k G (σ 0) (σ 2) (σ 3) (σ 4) h := (kblock_eq (a := c6) rfl).trans (n6_eq k (fun x v2 v3 h => kb 0 x fun x => G x v2 v3 h) σ h)
noncomputable def c13 : Code := cL c4
@[simp] def n4 {R : Type} (k : Nat) (G : KT2 R) (v0 v2 v3 : GV) (h : Heap) : Option R := n5 k G v0 v2 v3 (.int .i64 0) h
theorem n4_eq0 {R : Type} (k : Nat) (G : KT2 R) (σ : GS) (h : Heap) : KC k 23 c13 σ h (fun x σ h => kx x (n5 k G (σ 0) (σ 2) (σ 3) (σ 4) h) (G x (σ 2) (σ 3) h)) = n4 k G (σ 0) (σ 2) (σ 3) h := by kernel_rfl
theorem n4_eq {R : Type} (k : Nat) (G : KT2 R) (σ : GS) (h : Heap) : KC k 23 c4 σ h (fun x σ h => G x (σ 2) (σ 3) h) = n4 k G (σ 0) (σ 2) (σ 3) h := (kseq (b := c5) rfl (fun σ h => n5_eq k G σ h)).trans (n4_eq0 k G σ h)
@[simp] def n2 {R : Type} (k : Nat) (G : KT1 R) (v0 v2 v3 : GV) (h : Heap) : Option R := n4 k (fun x v2 v3 h => kx x (n3 k G v3 h) (G x v2 h)) v0 v2 v3 h
theorem n2_eq {R : Type} (k : Nat) (G : KT1 R) (σ : GS) (h : Heap) : KC k 23 c2 σ h (fun x σ h => G x (σ 2) h) = n2 k G (σ 0) (σ 2) (σ 3) h := (kseq (b := c3) rfl (fun σ h => n3_eq k G σ h)).trans (n4_eq k (fun x v2 v3 h => kx x (n3 k G v3 h) (G x v2 h)) σ h)
noncomputable def c14 : Code := cL c1
@[simp] def n1 {R : Type} (k : Nat) (G : KT1 R) (v0 v2 : GV) (h : Heap) : Option R := (klen v0).bind fun v6 => (kmake [.nils] 1 24 v6 v6 h).bind fun r => kr r fun v7 h => n2 k G v0 v2 v7 h
theorem n1_eq0 {R : Type} (k : Nat) (G : KT1 R) (σ : GS) (h : Heap) : KC k 23 c14 σ h (fun x σ h => kx x (n2 k G (σ 0) (σ 2) (σ 3) h) (G x (σ 2) h)) = n1 k G (σ 0) (σ 2) h := by kernel_rfl
theorem n1_eq {R : Type} (k : Nat) (G : KT1 R) (σ : GS) (h : Heap) : KC k 23 c1 σ h (fun x σ h => G x (σ 2) h) = n1 k G (σ 0) (σ 2) h := (kseq (b := c2) rfl (fun σ h => n2_eq k G σ h)).trans (n1_eq0 k G σ h)
noncomputable def c15 : Code := cL c0
@[simp] def n0 {R : Type} (k : Nat) (G : KT1 R) (v0 : GV) (h : Heap) : Option R := n1 k G v0 .nils h
theorem n0_eq0 {R : Type} (k : Nat) (G : KT1 R) (σ : GS) (h : Heap) : KC k 23 c15 σ h (fun x σ h => kx x (n1 k G (σ 0) (σ 2) h) (G x (σ 2) h)) = n0 k G (σ 0) h := by kernel_rfl
theorem n0_eq {R : Type} (k : Nat) (G : KT1 R) (σ : GS) (h : Heap) : KC k 23 c0 σ h (fun x σ h => G x (σ 2) h) = n0 k G (σ 0) h := (kseq (b := c1) rfl (fun σ h => n1_eq k G σ h)).trans (n0_eq0 k G σ h)
def run {R : Type} (k : Nat) (a0 : GV) (h : Heap) (fin : GV → Heap → Option R) : Option R := n0 k (fun x v2 h => kend x (fin v2 h)) a0 h
theorem run_eq {R : Type} (k : Nat) (a0 : GV) (h : Heap) (fin : GV → Heap → Option R) : kfun PP cfg NN HH k fn.laws_toInt64SS [a0] h fin = run k a0 h fin := (kfun_eq (nt := 23) (c := c0) (show PP.funcs[fn.laws_toInt64SS]? = some Try.f59 by kernel_rfl) (by kernel_rfl) (by kernel_rfl) (fun x σ h => by cases x <;> kernel_rfl)).trans (n0_eq k (fun x v2 h => kend x (fin v2 h)) _ h)
theorem gives {k : Nat} {a0 : GV} {b : Nat} {q : GV × List (List GV)} (e : run k a0 [] (finO b) = some q) : OO fn.laws_toInt64SS [a0] b = some q := oω_of ((run_eq k a0 [] (finO b)).trans e)
end S.laws_toInt64SS
/-! laws_eqServerS -/
namespace S.laws_eqServerS
noncomputable def c0 : Code := bodyOf Try.f61
noncomputable def c1 : Code := cR c0
noncomputable def c2 : Code := cR c1
noncomputable def c3 : Code := cR c2
@[simp] def n3 {R : Type} (k : Nat) (G : KT1 R) (h : Heap) : Option R := G .ret (.bool true) h
theorem n3_eq {R : Type} (k : Nat) (G : KT1 R) (σ : GS) (h : Heap) : KC k 27 c3 σ h (fun x σ h => G x (σ 4) h) = n3 k G h := by kernel_rfl
noncomputable def c4 : Code := cL c2
noncomputable def c5 : Code := cR c4
noncomputable def c6 : Code := cL c5
noncomputable def c7 : Code := cL c6
noncomputable def c8 : Code := cR c7
noncomputable def c9 : Code := cR c8
@[simp] def n9 {R : Type} (k : Nat) (G : KT4 R) (v0 v1 v4 v5 : GV) (h : Heap) : Option R := (kbin .add v5 (.int .i64 1)).bind fun v16 => G .nrm v0 v1 v4 v16 h
theorem n9_eq {R : Type} (k : Nat) (G : KT4 R) (σ : GS) (h : Heap) : KC k 27 c9 σ h (fun x σ h => G x (σ 0) (σ 1) (σ 4) (σ 5) h) = n9 k G (σ 0) (σ 1) (σ 4) (σ 5) h := by kernel_rfl
noncomputable def c10 : Code := cL c8
noncomputable def c11 : Code := cL c10
@[simp] def n11 {R : Type} (k : Nat) (G : KT4 R) (v0 v1 v4 v5 : GV) (h : Heap) : Option R := (kia 2 v0 v5).bind fun v19 => (kloadA 2 h v19).bind fun v20 => (kia 2 v1 v5).bind fun v23 => (kloadA 2 h v23).bind fun v24 => (kN NN fn.laws_eqServer [v20, v24] h).bind fun v25 => (kun .not v25).bind fun v26 => kcond v26 (G .ret v0 v1 (.bool false) v5 h) (G .nrm v0 v1 v4 v5 h)
theorem n11_eq {R : Type} (k : Nat) (G : KT4 R) (σ : GS) (h : Heap) : KC k 27 c11 σ h (fun x σ h => G x (σ 0) (σ 1) (σ 4) (σ 5) h) = n11 k G (σ 0) (σ 1) (σ 4) (σ 5) h := by kernel_rfl
@[simp] def n10 {R : Type} (k : Nat) (G : KT4 R) (v0 v1 v4 v5 : GV) (h : Heap) : Option R := n11 k (fun x v0 v1 v4 v5 h => kb 1 x fun x => G x v0 v1 v4 v5 h) v0 v1 v4 v5 h
theorem n10_eq {R : Type} (k : Nat) (G : KT4 R) (σ : GS) (h : Heap) : KC k 27 c10 σ h (fun x σ h => G x (σ 0) (σ 1) (σ 4) (σ 5) h) = n10 k G (σ 0) (σ 1) (σ 4) (σ 5) h := (kblock_eq (a := c11) rfl).trans (n11_eq k (fun x v0 v1 v4 v5 h => kb 1 x fun x => G x v0 v1 v4 v5 h) σ h)
@[simp] def n8 {R : Type} (k : Nat) (G : KT4 R) (v0 v1 v4 v5 : GV) (h : Heap) : Option R := n10 k (fun x v0 v1 v4 v5 h => kx x (n9 k G v0 v1 v4 v5 h) (G x v0 v1 v4 v5 h)) v0 v1 v4 v5 h
theorem n8_eq {R : Type} (k : Nat) (G : KT4 R) (σ : GS) (h : Heap) : KC k 27 c8 σ h (fun x σ h => G x (σ 0) (σ 1) (σ 4) (σ 5) h) = n8 k G (σ 0) (σ 1) (σ 4) (σ 5) h := (kseq (b := c9) rfl (fun σ h => n9_eq k G σ h)).trans (n10_eq k (fun x v0 v1 v4 v5 h => kx x (n9 k G v0 v1 v4 v5 h) (G x v0 v1 v4 v5 h)) σ h)
noncomputable def c12 : Code := cL c7
@[simp] def n7 {R : Type} (k : Nat) (G : KT4 R) (v0 v1 v4 v5 : GV) (h : Heap) : Option R := (klen v0).bind fun v13 => (kbin .lss v5 v13).bind fun v14 => kcond v14 (n8 k G v0 v1 v4 v5 h) (G (.ext 0) v0 v1 v4 v5 h)
theorem n7_eq0 {R : Type} (k : Nat) (G : KT4 R) (σ : GS) (h : Heap) : KC k 27 c12 σ h (fun x σ h => kx x (n8 k G (σ 0) (σ 1) (σ 4) (σ 5) h) (G x (σ 0) (σ 1) (σ 4) (σ 5) h)) = n7 k G (σ 0) (σ 1) (σ 4) (σ 5) h := by kernel_rfl
theorem n7_eq {R : Type} (k : Nat) (G : KT4 R) (σ : GS) (h : Heap) : KC k 27 c7 σ h (fun x σ h => G x (σ 0) (σ 1) (σ 4) (σ 5) h) = n7 k G (σ 0) (σ 1) (σ 4) (σ 5) h := (kseq (b := c8) rfl (fun σ h => n8_eq k G σ h)).trans (n7_eq0 k G σ h)
def l6 {R : Type} (k : Nat) (G : KT1 R) : Nat → GV → GV → GV → GV → Heap → Option R
  | 0, _, _, _, _, _ => none
  | r + 1, v0, v1, v4, v5, h => n7 k (fun x v0 v1 v4 v5 h => kx x (l6 k G r v0 v1 v4 v5 h) (G x v4 h)) v0 v1 v4 v5 h
theorem l6_eq {R : Type} (k : Nat) (G : KT1 R) : ∀ (r : Nat) (σ : GS) (h : Heap), kloop (fun σ h K => KC k 27 c7 σ h K) r σ h (fun x σ h => G x (σ 4) h) = l6 k G r (σ 0) (σ 1) (σ 4) (σ 5) h
  | 0, _, _ => rfl
  | r + 1, σ, h => (kloop_eq (fun σ h => l6_eq k G r σ h)).trans (n7_eq k (fun x v0 v1 v4 v5 h => kx x (l6 k G r v0 v1 v4 v5 h) (G x v4 h)) σ h)
@[simp] def n6 {R : Type} (k : Nat) (G : KT1 R) (v0 v1 v4 v5 : GV) (h : Heap) : Option R := l6 k G k v0 v1 v4 v5 h
theorem n6_eq {R : Type} (k : Nat) (G : KT1 R) (σ : GS) (h : Heap) : KC k 27 c6 σ h (fun x σ h => G x (σ 4) h) = n6 k G (σ 0) (σ 1) (σ 4) (σ 5) h := (kloopc_eq (a := c7) rfl).trans (l6_eq k G k σ h)
@[simp] def n5 {R : Type} (k : Nat) (G : KT1 R) (v0 v1 v4 v5 : GV) (h : Heap) : Option R := n6 k (fun x v4 h => kb 0 x fun x => G x v4 h) v0 v1 v4 v5 h
theorem n5_eq {R : Type} (k : Nat) (G : KT1 R) (σ : GS) (h : Heap) : KC k 27 c5 σ h (fun x σ h => G x (σ 4) h) = n5 k G (σ 0) (σ 1) (σ 4) (σ 5) h := (kblock_eq (a := c6) rfl).trans (n6_eq k (fun x v4 h => kb 0 x fun x => G x v4 h) σ h)
noncomputable def c13 : Code := cL c4
@[simp] def n4 {R : Type} (k : Nat) (G : KT1 R) (v0 v1 v4 : GV) (h : Heap) : Option R := n5 k G v0 v1 v4 (.int .i64 0) h
theorem n4_eq0 {R : Type} (k : Nat) (G : KT1 R) (σ : GS) (h : Heap) : KC k 27 c13 σ h (fun x σ h => kx x (n5 k G (σ 0) (σ 1) (σ 4) (σ 5) h) (G x (σ 4) h)) = n4 k G (σ 0) (σ 1) (σ 4) h := by kernel_rfl
theorem n4_eq {R : Type} (k : Nat) (G : KT1 R) (σ : GS) (h : Heap) : KC k 27 c4 σ h (fun x σ h => G x (σ 4) h) = n4 k G (σ 0) (σ 1) (σ 4) h := (kseq (b := c5) rfl (fun σ h => n5_eq k G σ h)).trans (n4_eq0 k G σ h)
@[simp] def n2 {R : Type} (k : Nat) (G : KT1 R) (v0 v1 v4 : GV) (h : Heap) : Option R := n4 k (fun x v4 h => kx x (n3 k G h) (G x v4 h)) v0 v1 v4 h
theorem n2_eq {R : Type} (k : Nat) (G : KT1 R) (σ : GS) (h : Heap) : KC k 27 c2 σ h (fun x σ h => G x (σ 4) h) = n2 k G (σ 0) (σ 1) (σ 4) h := (kseq (b := c3) rfl (fun σ h => n3_eq k G σ h)).trans (n4_eq k (fun x v4 h => kx x (n3 k G h) (G x v4 h)) σ h)
noncomputable def c14 : Code := cL c1
@[simp] def n1 {R : Type} (k : Nat) (G : KT1 R) (v0 v1 v4 : GV) (h : Heap) : Option R := (klen v0).bind fun v7 => (klen v1).bind fun v9 => (kbin .neq v7 v9).bind fun v10 => kcond v10 (G .ret (.bool false) h) (n2 k G v0 v1 v4 h)
theorem n1_eq0 {R : Type} (k : Nat) (G : KT1 R) (σ : GS) (h : Heap) : KC k 27 c14 σ h (fun x σ h => kx x (n2 k G (σ 0) (σ 1) (σ 4) h) (G x (σ 4) h)) = n1 k G (σ 0) (σ 1) (σ 4) h := by kernel_rfl
theorem n1_eq {R : Type} (k : Nat) (G : KT1 R) (σ : GS) (h : Heap) : KC k 27 c1 σ h (fun x σ h => G x (σ 4) h) = n1 k G (σ 0) (σ 1) (σ 4) h := (kseq (b := c2) rfl (fun σ h => n2_eq k G σ h)).trans (n1_eq0 k G σ h)
noncomputable def c15 : Code := cL c0
@[simp] def n0 {R : Type} (k : Nat) (G : KT1 R) (v0 v1 : GV) (h : Heap) : Option R := n1 k G v0 v1 (.bool false) h
theorem n0_eq0 {R : Type} (k : Nat) (G : KT1 R) (σ : GS) (h : Heap) : KC k 27 c15 σ h (fun x σ h => kx x (n1 k G (σ 0) (σ 1) (σ 4) h) (G x (σ 4) h)) = n0 k G (σ 0) (σ 1) h := by kernel_rfl
theorem n0_eq {R : Type} (k : Nat) (G : KT1 R) (σ : GS) (h : Heap) : KC k 27 c0 σ h (fun x σ h => G x (σ 4) h) = n0 k G (σ 0) (σ 1) h := (kseq (b := c1) rfl (fun σ h => n1_eq k G σ h)).trans (n0_eq0 k G σ h)
def run {R : Type} (k : Nat) (a0 : GV) (a1 : GV) (h : Heap) (fin : GV → Heap → Option R) : Option R := n0 k (fun x v4 h => kend x (fin v4 h)) a0 a1 h
theorem run_eq {R : Type} (k : Nat) (a0 : GV) (a1 : GV) (h : Heap) (fin : GV → Heap → Option R) : kfun PP cfg NN HH k fn.laws_eqServerS [a0, a1] h fin = run k a0 a1 h fin := (kfun_eq (nt := 27) (c := c0) (show PP.funcs[fn.laws_eqServerS]? = some Try.f61 by kernel_rfl) (by kernel_rfl) (by kernel_rfl) (fun x σ h => by cases x <;> kernel_rfl)).trans (n0_eq k (fun x v4 h => kend x (fin v4 h)) _ h)
theorem gives {k : Nat} {a0 : GV} {a1 : GV} {v : GV} (e : run k a0 a1 [] finN = some v) : NN fn.laws_eqServerS [a0, a1] = some v := nω_of (by kernel_rfl) ((run_eq k a0 a1 [] finN).trans e)
end S.laws_eqServerS
/-! laws_eqStringSS -/
namespace S.laws_eqStringSS
noncomputable def c0 : Code := bodyOf Try.f62
noncomputable def c1 : Code := cR c0
noncomputable def c2 : Code := cR c1
noncomputable def c3 : Code := cR c2
@[simp] def n3 {R : Type} (k : Nat) (G : KT1 R) (h : Heap) : Option R := G .ret (.bool true) h
theorem n3_eq {R : Type} (k : Nat) (G : KT1 R) (σ : GS) (h : Heap) : KC k 27 c3 σ h (fun x σ h => G x (σ 4) h) = n3 k G h := by kernel_rfl
noncomputable def c4 : Code := cL c2
noncomputable def c5 : Code := cR c4
noncomputable def c6 : Code := cL c5
noncomputable def c7 : Code := cL c6
noncomputable def c8 : Code := cR c7
noncomputable def c9 : Code := cR c8
@[simp] def n9 {R : Type} (k : Nat) (G : KT4 R) (v0 v1 v4 v5 : GV) (h : Heap) : Option R := (kbin .add v5 (.int .i64 1)).bind fun v16 => G .nrm v0 v1 v4 v16 h
theorem n9_eq {R : Type} (k : Nat) (G : KT4 R) (σ : GS) (h : Heap) : KC k 27 c9 σ h (fun x σ h => G x (σ 0) (σ 1) (σ 4) (σ 5) h) = n9 k G (σ 0) (σ 1) (σ 4) (σ 5) h := by kernel_rfl
noncomputable def c10 : Code := cL c8
noncomputable def c11 : Code := cL c10
@[simp] def n11 {R : Type} (k : Nat) (G : KT4 R) (v0 v1 v4 v5 : GV) (h : Heap) : Option R := (kia 1 v0 v5).bind fun v19 => (kload1 h v19).bind fun v20 => (kia 1 v1 v5).bind fun v23 => (kload1 h v23).bind fun v24 => (kN NN fn.laws_eqStringS [v20, v24] h).bind fun v25 => (kun .not v25).bind fun v26 => kcond v26 (G .ret v0 v1 (.bool false) v5 h) (G .nrm v0 v1 v4 v5 h)
theorem n11_eq {R : Type} (k : Nat) (G : KT4 R) (σ : GS) (h : Heap) : KC k 27 c11 σ h (fun x σ h => G x (σ 0) (σ 1) (σ 4) (σ 5) h) = n11 k G (σ 0) (σ 1) (σ 4) (σ 5) h := by kernel_rfl
@[simp] def n10 {R : Type} (k : Nat) (G : KT4 R) (v0 v1 v4 v5 : GV) (h : Heap) : Option R := n11 k (fun x v0 v1 v4 v5 h => kb 1 x fun x => G x v0 v1 v4 v5 h) v0 v1 v4 v5 h
theorem n10_eq {R : Type} (k : Nat) (G : KT4 R) (σ : GS) (h : Heap) : KC k 27 c10 σ h (fun x σ h => G x (σ 0) (σ 1) (σ 4) (σ 5) h) = n10 k G (σ 0) (σ 1) (σ 4) (σ 5) h := (kblock_eq (a := c11) rfl).trans (n11_eq k (fun x v0 v1 v4 v5 h => kb 1 x fun x => G x v0 v1 v4 v5 h) σ h)
@[simp] def n8 {R : Type} (k : Nat) (G : KT4 R) (v0 v1 v4 v5 : GV) (h : Heap) : Option R := n10 k (fun x v0 v1 v4 v5 h => kx x (n9 k G v0 v1 v4 v5 h) (G x v0 v1 v4 v5 h)) v0 v1 v4 v5 h
theorem n8_eq {R : Type} (k : Nat) (G : KT4 R) (σ : GS) (h : Heap) : KC k 27 c8 σ h (fun x σ h => G x (σ 0) (σ 1) (σ 4) (σ 5) h) = n8 k G (σ 0) (σ 1) (σ 4) (σ 5) h := (kseq (b := c9) rfl (fun σ h => n9_eq k G σ h)).trans (n10_eq k (fun x v0 v1 v4 v5 h => kx x (n9 k G v0 v1 v4 v5 h) (G x v0 v1 v4 v5 h)) σ h)
noncomputable def c12 : Code := cL c7
@[simp] def n7 {R : Type} (k : Nat) (G : KT4 R) (v0 v1 v4 v5 : GV) (h : Heap) : Option R := (klen v0).bind fun v13 => (kbin .lss v5 v13).bind fun v14 => kcond v14 (n8 k G v0 v1 v4 v5 h) (G (.ext 0) v0 v1 v4 v5 h)
theorem n7_eq0 {R : Type} (k : Nat) (G : KT4 R) (σ : GS) (h : Heap) : KC k 27 c12 σ h (fun x σ h => kx x (n8 k G (σ 0) (σ 1) (σ 4) (σ 5) h) (G x (σ 0) (σ 1) (σ 4) (σ 5) h)) = n7 k G (σ 0) (σ 1) (σ 4) (σ 5) h := by kernel_rfl
theorem n7_eq {R : Type} (k : Nat) (G : KT4 R) (σ : GS) (h : Heap) : KC k 27 c7 σ h (fun x σ h => G x (σ 0) (σ 1) (σ 4) (σ 5) h) = n7 k G (σ 0) (σ 1) (σ 4) (σ 5) h := (kseq (b := c8) rfl (fun σ h => n8_eq k G σ h)).trans (n7_eq0 k G σ h)
def l6 {R : Type} (k : Nat) (G : KT1 R) : Nat → GV → GV → GV → GV → Heap → Option R
  | 0, _, _, _, _, _ => none
  | r + 1, v0, v1, v4, v5, h => n7 k (fun x v0 v1 v4 v5 h => kx x (l6 k G r v0 v1 v4 v5 h) (G x v4 h)) v0 v1 v4 v5 h
theorem l6_eq {R : Type} (k : Nat) (G : KT1 R) : ∀ (r : Nat) (σ : GS) (h : Heap), kloop (fun σ h K => KC k 27 c7 σ h K) r σ h (fun x σ h => G x (σ 4) h) = l6 k G r (σ 0) (σ 1) (σ 4) (σ 5) h
  | 0, _, _ => rfl
  | r + 1, σ, h => (kloop_eq (fun σ h => l6_eq k G r σ h)).trans (n7_eq k (fun x v0 v1 v4 v5 h => kx x (l6 k G r v0 v1 v4 v5 h) (G x v4 h)) σ h)
@[simp] def n6 {R : Type} (k : Nat) (G : KT1 R) (v0 v1 v4 v5 : GV) (h : Heap) : Option R := l6 k G k v0 v1 v4 v5 h
theorem n6_eq {R : Type} (k : Nat) (G : KT1 R) (σ : GS) (h : Heap) : KC k 27 c6 σ h (fun x σ h => G x (σ 4) h) = n6 k G (σ 0) (σ 1) (σ 4) (σ 5) h := (kloopc_eq (a := c7) rfl).trans (l6_eq k G k σ h)
@[simp] def n5 {R : Type} (k : Nat) (G : KT1 R) (v0 v1 v4 v5 : GV) (h : Heap) : Option R := n6 k (fun x v4 h => kb 0 x fun x => G x v4 h) v0 v1 v4 v5 h
theorem n5_eq {R : Type} (k : Nat) (G : KT1 R) (σ : GS) (h : Heap) : KC k 27 c5 σ h (fun x σ h => G x (σ 4) h) = n5 k G (σ 0) (σ 1) (σ 4) (σ 5) h := (kblock_eq (a := c6) rfl).trans (n6_eq k (fun x v4 h => kb 0 x fun x => G x v4 h) σ h)
noncomputable def c13 : Code := cL c4
@[simp] def n4 {R : Type} (k : Nat) (G : KT1 R) (v0 v1 v4 : GV) (h : Heap) : Option R := n5 k G v0 v1 v4 (.int .i64 0) h
theorem n4_eq0 {R : Type} (k : Nat) (G : KT1 R) (σ : GS) (h : Heap) : KC k 27 c13 σ h (fun x σ h => kx x (n5 k G (σ 0) (σ 1) (σ 4) (σ 5) h) (G x (σ 4) h)) = n4 k G (σ 0) (σ 1) (σ 4) h := by kernel_rfl
theorem n4_eq {R : Type} (k : Nat) (G : KT1 R) (σ : GS) (h : Heap) : KC k 27 c4 σ h (fun x σ h => G x (σ 4) h) = n4 k G (σ 0) (σ 1) (σ 4) h := (kseq (b := c5) rfl (fun σ h => n5_eq k G σ h)).trans (n4_eq0 k G σ h)
@[simp] def n2 {R : Type} (k : Nat) (G : KT1 R) (v0 v1 v4 : GV) (h : Heap) : Option R := n4 k (fun x v4 h => kx x (n3 k G h) (G x v4 h)) v0 v1 v4 h
theorem n2_eq {R : Type} (k : Nat) (G : KT1 R) (σ : GS) (h : Heap) : KC k 27 c2 σ h (fun x σ h => G x (σ 4) h) = n2 k G (σ 0) (σ 1) (σ 4) h := (kseq (b := c3) rfl (fun σ h => n3_eq k G σ h)).trans (n4_eq k (fun x v4 h => kx x (n3 k G h) (G x v4 h)) σ h)
noncomputable def c14 : Code := cL c1
@[simp] def n1 {R : Type} (k : Nat) (G : KT1 R) (v0 v1 v4 : GV) (h : Heap) : Option R := (klen v0).bind fun v7 => (klen v1).bind fun v9 => (kbin .neq v7 v9).bind fun v10 => kcond v10 (G .ret (.bool false) h) (n2 k G v0 v1 v4 h)
theorem n1_eq0 {R : Type} (k : Nat) (G : KT1 R) (σ : GS) (h : Heap) : KC k 27 c14 σ h (fun x σ h => kx x (n2 k G (σ 0) (σ 1) (σ 4) h) (G x (σ 4) h)) = n1 k G (σ 0) (σ 1) (σ 4) h := by kernel_rfl
theorem n1_eq {R : Type} (k : Nat) (G : KT1 R) (σ : GS) (h : Heap) : KC k 27 c1 σ h (fun x σ h => G x (σ 4) h) = n1 k G (σ 0) (σ 1) (σ 4) h := (kseq (b := c2) rfl (fun σ h => n2_eq k G σ h)).trans (n1_eq0 k G σ h)
noncomputable def c15 : Code := cL c0
@[simp] def n0 {R : Type} (k : Nat) (G : KT1 R) (v0 v1 : GV) (h : Heap) : Option R := n1 k G v0 v1 (.bool false) h
theorem n0_eq0 {R : Type} (k : Nat) (G : KT1 R) (σ : GS) (h : Heap) : KC k 27 c15 σ h (fun x σ h => kx x (n1 k G (σ 0) (σ 1) (σ 4) h) (G x (σ 4) h)) = n0 k G (σ 0) (σ 1) h := by kernel_rfl
theorem n0_eq {R : Type} (k : Nat) (G : KT1 R) (σ : GS) (h : Heap) : KC k 27 c0 σ h (fun x σ h => G x (σ 4) h) = n0 k G (σ 0) (σ 1) h := (kseq (b := c1) rfl (fun σ h => n1_eq k G σ h)).trans (n0_eq0 k G σ h)
def run {R : Type} (k : Nat) (a0 : GV) (a1 : GV) (h : Heap) (fin : GV → Heap → Option R) : Option R := n0 k (fun x v4 h => kend x (fin v4 h)) a0 a1 h
theorem run_eq {R : Type} (k : Nat) (a0 : GV) (a1 : GV) (h : Heap) (fin : GV → Heap → Option R) : kfun PP cfg NN HH k fn.laws_eqStringSS [a0, a1] h fin = run k a0 a1 h fin := (kfun_eq (nt := 27) (c := c0) (show PP.funcs[fn.laws_eqStringSS]? = some Try.f62 by kernel_rfl) (by kernel_rfl) (by kernel_rfl) (fun x σ h => by cases x <;> kernel_rfl)).trans (n0_eq k (fun x v4 h => kend x (fin v4 h)) _ h)
theorem gives {k : Nat} {a0 : GV} {a1 : GV} {v : GV} (e : run k a0 a1 [] finN = some v) : NN fn.laws_eqStringSS [a0, a1] = some v := nω_of (by kernel_rfl) ((run_eq k a0 a1 [] finN).trans e)
end S.laws_eqStringSS
/-! laws_eqInt64SS -/
namespace S.laws_eqInt64SS
noncomputable def c0 : Code := bodyOf Try.f63
noncomputable def c1 : Code := cR c0
noncomputable def c2 : Code := cR c1
noncomputable def c3 : Code := cR c2
@[simp] def n3 {R : Type} (k : Nat) (G : KT1 R) (h : Heap) : Option R := G .ret (.bool true) h
theorem n3_eq {R : Type} (k : Nat) (G : KT1 R) (σ : GS) (h : Heap) : KC k 27 c3 σ h (fun x σ h => G x (σ 4) h) = n3 k G h := by kernel_rfl
noncomputable def c4 : Code := cL c2
noncomputable def c5 : Code := cR c4
noncomputable def c6 : Code := cL c5
noncomputable def c7 : Code := cL c6
noncomputable def c8 : Code := cR c7
noncomputable def c9 : Code := cR c8
@[simp] def n9 {R : Type} (k : Nat) (G : KT4 R) (v0 v1 v4 v5 : GV) (h : Heap) : Option R := (kbin .add v5 (.int .i64 1)).bind fun v16 => G .nrm v0 v1 v4 v16 h
theorem n9_eq {R : Type} (k : Nat) (G : KT4 R) (σ : GS) (h : Heap) : KC k 27 c9 σ h (fun x σ h => G x (σ 0) (σ 1) (σ 4) (σ 5) h) = n9 k G (σ 0) (σ 1) (σ 4) (σ 5) h := by kernel_rfl
noncomputable def c10 : Code := cL c8
noncomputable def c11 : Code := cL c10
@[simp] def n11 {R : Type} (k : Nat) (G : KT4 R) (v0 v1 v4 v5 : GV) (h : Heap) : Option R := (kia 1 v0 v5).bind fun v19 => (kload1 h v19).bind fun v20 => (kia 1 v1 v5).bind fun v23 => (kload1 h v23).bind fun v24 => (kN NN fn.laws_eqInt64S [v20, v24] h).bind fun v25 => (kun .not v25).bind fun v26 => kcond v26 (G .ret v0 v1 (.bool false) v5 h) (G .nrm v0 v1 v4 v5 h)
theorem n11_eq {R : Type} (k : Nat) (G : KT4 R) (σ : GS) (h : Heap) : KC k 27 c11 σ h (fun x σ h => G x (σ 0) (σ 1) (σ 4) (σ 5) h) = n11 k G (σ 0) (σ 1) (σ 4) (σ 5) h := by kernel_rfl
@[simp] def n10 {R : Type} (k : Nat) (G : KT4 R) (v0 v1 v4 v5 : GV) (h : Heap) : Option R := n11 k (fun x v0 v1 v4 v5 h => kb 1 x fun x => G x v0 v1 v4 v5 h) v0 v1 v4 v5 h
theorem n10_eq {R : Type} (k : Nat) (G : KT4 R) (σ : GS) (h : Heap) : KC k 27 c10 σ h (fun x σ h => G x (σ 0) (σ 1) (σ 4) (σ 5) h) = n10 k G (σ 0) (σ 1) (σ 4) (σ 5) h := (kblock_eq (a := c11) rfl).trans (n11_eq k (fun x v0 v1 v4 v5 h => kb 1 x fun x => G x v0 v1 v4 v5 h) σ h)
@[simp] def n8 {R : Type} (k : Nat) (G : KT4 R) (v0 v1 v4 v5 : GV) (h : Heap) : Option R := n10 k (fun x v0 v1 v4 v5 h => kx x (n9 k G v0 v1 v4 v5 h) (G x v0 v1 v4 v5 h)) v0 v1 v4 v5 h
theorem n8_eq {R : Type} (k : Nat) (G : KT4 R) (σ : GS) (h : Heap) : KC k 27 c8 σ h (fun x σ h => G x (σ 0) (σ 1) (σ 4) (σ 5) h) = n8 k G (σ 0) (σ 1) (σ 4) (σ 5) h := (kseq (b := c9) rfl (fun σ h => n9_eq k G σ h)).trans (n10_eq k (fun x v0 v1 v4 v5 h => kx x (n9 k G v0 v1 v4 v5 h) (G x v0 v1 v4 v5 h)) σ h)
noncomputable def c12 : Code := cL c7
@[simp] def n7 {R : Type} (k : Nat) (G : KT4 R) (v0 v1 v4 v5 : GV) (h : Heap) : Option R := (klen v0).bind fun v13 => (kbin .lss v5 v13).bind fun v14 => kcond v14 (n8 k G v0 v1 v4 v5 h) (G (.ext 0) v0 v1 v4 v5 h)
theorem n7_eq0 {R : Type} (k : Nat) (G : KT4 R) (σ : GS) (h : Heap) : KC k 27 c12 σ h (fun x σ h => kx x (n8 k G (σ 0) (σ 1) (σ 4) (σ 5) h) (G x (σ 0) (σ 1) (σ 4) (σ 5) h)) = n7 k G (σ 0) (σ 1) (σ 4) (σ 5) h := by kernel_rfl
theorem n7_eq {R : Type} (k : Nat) (G : KT4 R) (σ : GS) (h : Heap) : KC k 27 c7 σ h (fun x σ h => G x (σ 0) (σ 1) (σ 4) (σ 5) h) = n7 k G (σ 0) (σ 1) (σ 4) (σ 5) h := (kseq (b := c8) rfl (fun σ h => n8_eq k G σ h)).trans (n7_eq0 k G σ h)
def l6 {R : Type} (k : Nat) (G : KT1 R) : Nat → GV → GV → GV → GV → Heap → Option R
  | 0, _, _, _, _, _ => none
  | r + 1, v0, v1, v4, v5, h => n7 k (fun x v0 v1 v4 v5 h => kx x (l6 k G r v0 v1 v4 v5 h) (G x v4 h)) v0 v1 v4 v5 h
theorem l6_eq {R : Type} (k : Nat) (G : KT1 R) : ∀ (r : Nat) (σ : GS) (h : Heap), kloop (fun σ h K => KC k 27 c7 σ h K) r σ h (fun x σ h => G x (σ 4) h) = l6 k G r (σ 0) (σ 1) (σ 4) (σ 5) h
  | 0, _, _ => rfl
  | r + 1, σ, h => (kloop_eq (fun σ h => l6_eq k G r σ h)).trans (n7_eq k (fun x v0 v1 v4 v5 h => kx x (l6 k G r v0 v1 v4 v5 h) (G x v4 h)) σ h)
@[simp] def n6 {R : Type} (k : Nat) (G : KT1 R) (v0 v1 v4 v5 : GV) (h : Heap) : Option R := l6 k G k v0 v1 v4 v5 h
theorem n6_eq {R : Type} (k : Nat) (G : KT1 R) (σ : GS) (h : Heap) : KC k 27 c6 σ h (fun x σ h => G x (σ 4) h) = n6 k G (σ 0) (σ 1) (σ 4) (σ 5) h := (kloopc_eq (a := c7) rfl).trans (l6_eq k G k σ h)
@[simp] def n5 {R : Type} (k : Nat) (G : KT1 R) (v0 v1 v4 v5 : GV) (h : Heap) : Option R := n6 k (fun x v4 h => kb 0 x fun x => G x v4 h) v0 v1 v4 v5 h
theorem n5_eq {R : Type} (k : Nat) (G : KT1 R) (σ : GS) (h : Heap) : KC k 27 c5 σ h (fun x σ h => G x (σ 4) h) = n5 k G (σ 0) (σ 1) (σ 4) (σ 5) h := (kblock_eq (a := c6) rfl).trans (n6_eq k (fun x v4 h => kb 0 x fun x => G x v4 h) σ h)
noncomputable def c13 : Code := cL c4
@[simp] def n4 {R : Type} (k : Nat) (G : KT1 R) (v0 v1 v4 : GV) (h : Heap) : Option R := n5 k G v0 v1 v4 (.int .i64 0) h
theorem n4_eq0 {R : Type} (k : Nat) (G : KT1 R) (σ : GS) (h : Heap) : KC k 27 c13 σ h (fun x σ h => kx x (n5 k G (σ 0) (σ 1) (σ 4) (σ 5) h) (G x (σ 4) h)) = n4 k G (σ 0) (σ 1) (σ 4) h := by kernel_rfl
theorem n4_eq {R : Type} (k : Nat) (G : KT1 R) (σ : GS) (h : Heap) : KC k 27 c4 σ h (fun x σ h => G x (σ 4) h) = n4 k G (σ 0) (σ 1) (σ 4) h := (kseq (b := c5) rfl (fun σ h => n5_eq k G σ h)).trans (n4_eq0 k G σ h)
@[simp] def n2 {R : Type} (k : Nat) (G : KT1 R) (v0 v1 v4 : GV) (h : Heap) : Option R := n4 k (fun x v4 h => kx x (n3 k G h) (G x v4 h)) v0 v1 v4 h
theorem n2_eq {R : Type} (k : Nat) (G : KT1 R) (σ : GS) (h : Heap) : KC k 27 c2 σ h (fun x σ h => G x (σ 4) h) = n2 k G (σ 0) (σ 1) (σ 4) h := (kseq (b := c3) rfl (fun σ h => n3_eq k G σ h)).trans (n4_eq k (fun x v4 h => kx x (n3 k G h) (G x v4 h)) σ h)
noncomputable def c14 : Code := cL c1
@[simp] def n1 {R : Type} (k : Nat) (G : KT1 R) (v0 v1 v4 : GV) (h : Heap) : Option R := (klen v0).bind fun v7 => (klen v1).bind fun v9 => (kbin .neq v7 v9).bind fun v10 => kcond v10 (G .ret (.bool false) h) (n2 k G v0 v1 v4 h)
theorem n1_eq0 {R : Type} (k : Nat) (G : KT1 R) (σ : GS) (h : Heap) : KC k 27 c14 σ h (fun x σ h => kx x (n2 k G (σ 0) (σ 1) (σ 4) h) (G x (σ 4) h)) = n1 k G (σ 0) (σ 1) (σ 4) h := by kernel_rfl
theorem n1_eq {R : Type} (k : Nat) (G : KT1 R) (σ : GS) (h : Heap) : KC k 27 c1 σ h (fun x σ h => G x (σ 4) h) = n1 k G (σ 0) (σ 1) (σ 4) h := (kseq (b := c2) rfl (fun σ h => n2_eq k G σ h)).trans (n1_eq0 k G σ h)
noncomputable def c15 : Code := cL c0
@[simp] def n0 {R : Type} (k : Nat) (G : KT1 R) (v0 v1 : GV) (h : Heap) : Option R := n1 k G v0 v1 (.bool false) h
theorem n0_eq0 {R : Type} (k : Nat) (G : KT1 R) (σ : GS) (h : Heap) : KC k 27 c15 σ h (fun x σ h => kx x (n1 k G (σ 0) (σ 1) (σ 4) h) (G x (σ 4) h)) = n0 k G (σ 0) (σ 1) h := by kernel_rfl
theorem n0_eq {R : Type} (k : Nat) (G : KT1 R) (σ : GS) (h : Heap) : KC k 27 c0 σ h (fun x σ h => G x (σ 4) h) = n0 k G (σ 0) (σ 1) h := (kseq (b := c1) rfl (fun σ h => n1_eq k G σ h)).trans (n0_eq0 k G σ h)
def run {R : Type} (k : Nat) (a0 : GV) (a1 : GV) (h : Heap) (fin : GV → Heap → Option R) : Option R := n0 k (fun x v4 h => kend x (fin v4 h)) a0 a1 h
theorem run_eq {R : Type} (k : Nat) (a0 : GV) (a1 : GV) (h : Heap) (fin : GV → Heap → Option R) : kfun PP cfg NN HH k fn.laws_eqInt64SS [a0, a1] h fin = run k a0 a1 h fin := (kfun_eq (nt := 27) (c := c0) (show PP.funcs[fn.laws_eqInt64SS]? = some Try.f63 by kernel_rfl) (by kernel_rfl) (by kernel_rfl) (fun x σ h => by cases x <;> kernel_rfl)).trans (n0_eq k (fun x v4 h => kend x (fin v4 h)) _ h)
theorem gives {k : Nat} {a0 : GV} {a1 : GV} {v : GV} (e : run k a0 a1 [] finN = some v) : NN fn.laws_eqInt64SS [a0, a1] = some v := nω_of (by kernel_rfl) ((run_eq k a0 a1 [] finN).trans e)
end S.laws_eqInt64SS
/-! laws_markServerS -/
namespace S.laws_markServerS
noncomputable def c0 : Code := bodyOf Try.f64
noncomputable def c1 : Code := cR c0
noncomputable def c2 : Code := cR c1
@[simp] def n2 {R : Type} (k : Nat) (G : KT1 R) (v1 : GV) (h : Heap) : Option R := G .ret v1 h
theorem n2_eq {R : Type} (k : Nat) (G : KT1 R) (σ : GS) (h : Heap) : KC k 27 c2 σ h (fun x σ h => G x (σ 4) h) = n2 k G (σ 1) h := by kernel_rfl
noncomputable def c3 : Code := cL c1
noncomputable def c4 : Code := cR c3
noncomputable def c5 : Code := cL c4
noncomputable def c6 : Code := cL c5
noncomputable def c7 : Code := cR c6
noncomputable def c8 : Code := cR c7
@[simp] def n8 {R : Type} (k : Nat) (G : KT4 R) (v0 v1 v4 v5 : GV) (h : Heap) : Option R := (kbin .add v5 (.int .i64 1)).bind fun v11 => G .nrm v0 v1 v4 v11 h
theorem n8_eq {R : Type} (k : Nat) (G : KT4 R) (σ : GS) (h : Heap) : KC k 27 c8 σ h (fun x σ h => G x (σ 0) (σ 1) (σ 4) (σ 5) h) = n8 k G (σ 0) (σ 1) (σ 4) (σ 5) h := by kernel_rfl
noncomputable def c9 : Code := cL c7
noncomputable def c10 : Code := cL c9
@[simp] def n10 {R : Type} (k : Nat) (G : KT4 R) (v0 v1 v4 v5 : GV) (h : Heap) : Option R := (kia 2 v0 v5).bind fun v14 => (kfa 0 v14).bind fun v15 => (kload1 h v15).bind fun v16 => (HH fn.laws_markStringS [v16, v1] h).bind fun r => kr r fun v18 h => (kia 2 v0 v5).bind fun v22 => (kfa 1 v22).bind fun v23 => (kstore 1 h v23 v18).bind fun h => (kbin .add v18 (.int .i64 1)).bind fun v25 => G .nrm v0 v25 v4 v5 h
theorem n10_eq {R : Type} (k : Nat) (G : KT4 R) (σ : GS) (h : Heap) : KC k 27 c10 σ h (fun x σ h => G x (σ 0) (σ 1) (σ 4) (σ 5) h) = n10 k G (σ 0) (σ 1) (σ 4) (σ 5) h := by kernel_rfl
@[simp] def n9 {R : Type} (k : Nat) (G : KT4 R) (v0 v1 v4 v5 : GV) (h : Heap) : Option R := n10 k (fun x v0 v1 v4 v5 h => kb 1 x fun x => G x v0 v1 v4 v5 h) v0 v1 v4 v5 h
theorem n9_eq {R : Type} (k : Nat) (G : KT4 R) (σ : GS) (h : Heap) : KC k 27 c9 σ h (fun x σ h => G x (σ 0) (σ 1) (σ 4) (σ 5) h) = n9 k G (σ 0) (σ 1) (σ 4) (σ 5) h := (kblock_eq (a := c10) rfl).trans (n10_eq k (fun x v0 v1 v4 v5 h => kb 1 x fun x => G x v0 v1 v4 v5 h) σ h)
@[simp] def n7 {R : Type} (k : Nat) (G : KT4 R) (v0 v1 v4 v5 : GV) (h : Heap) : Option R := n9 k (fun x v0 v1 v4 v5 h => kx x (n8 k G v0 v1 v4 v5 h) (G x v0 v1 v4 v5 h)) v0 v1 v4 v5 h
theorem n7_eq {R : Type} (k : Nat) (G : KT4 R) (σ : GS) (h : Heap) : KC k 27 c7 σ h (fun x σ h => G x (σ 0) (σ 1) (σ 4) (σ 5) h) = n7 k G (σ 0) (σ 1) (σ 4) (σ 5) h := (kseq (b := c8) rfl (fun σ h => n8_eq k G σ h)).trans (n9_eq k (fun x v0 v1 v4 v5 h => kx x (n8 k G v0 v1 v4 v5 h) (G x v0 v1 v4 v5 h)) σ h)
noncomputable def c11 : Code := cL c6
@[simp] def n6 {R : Type} (k : Nat) (G : KT4 R) (v0 v1 v4 v5 : GV) (h : Heap) : Option R := (klen v0).bind fun v8 => (kbin .lss v5 v8).bind fun v9 => kcond v9 (n7 k G v0 v1 v4 v5 h) (G (.ext 0) v0 v1 v4 v5 h)
theorem n6_eq0 {R : Type} (k : Nat) (G : KT4 R) (σ : GS) (h : Heap) : KC k 27 c11 σ h (fun x σ h => kx x (n7 k G (σ 0) (σ 1) (σ 4) (σ 5) h) (G x (σ 0) (σ 1) (σ 4) (σ 5) h)) = n6 k G (σ 0) (σ 1) (σ 4) (σ 5) h := by kernel_rfl
theorem n6_eq {R : Type} (k : Nat) (G : KT4 R) (σ : GS) (h : Heap) : KC k 27 c6 σ h (fun x σ h => G x (σ 0) (σ 1) (σ 4) (σ 5) h) = n6 k G (σ 0) (σ 1) (σ 4) (σ 5) h := (kseq (b := c7) rfl (fun σ h => n7_eq k G σ h)).trans (n6_eq0 k G σ h)
def l5 {R : Type} (k : Nat) (G : KT2 R) : Nat → GV → GV → GV → GV → Heap → Option R
  | 0, _, _, _, _, _ => none
  | r + 1, v0, v1, v4, v5, h => n6 k (fun x v0 v1 v4 v5 h => kx x (l5 k G r v0 v1 v4 v5 h) (G x v1 v4 h)) v0 v1 v4 v5 h
theorem l5_eq {R : Type} (k : Nat) (G : KT2 R) : ∀ (r : Nat) (σ : GS) (h : Heap), kloop (fun σ h K => KC k 27 c6 σ h K) r σ h (fun x σ h => G x (σ 1) (σ 4) h) = l5 k G r (σ 0) (σ 1) (σ 4) (σ 5) h
  | 0, _, _ => rfl
  | r + 1, σ, h => (kloop_eq (fun σ h => l5_eq k G r σ h)).trans (n6_eq k (fun x v0 v1 v4 v5 h => kx x (l5 k G r v0 v1 v4 v5 h) (G x v1 v4 h)) σ h)
@[simp] def n5 {R : Type} (k : Nat) (G : KT2 R) (v0 v1 v4 v5 : GV) (h : Heap) : Option R := l5 k G k v0 v1 v4 v5 h
theorem n5_eq {R : Type} (k : Nat) (G : KT2 R) (σ : GS) (h : Heap) : KC k 27 c5 σ h (fun x σ h => G x (σ 1) (σ 4) h) = n5 k G (σ 0) (σ 1) (σ 4) (σ 5) h := (kloopc_eq (a := c6) rfl).trans (l5_eq k G k σ h)
@[simp] def n4 {R : Type} (k : Nat) (G : KT2 R) (v0 v1 v4 v5 : GV) (h : Heap) : Option R := n5 k (fun x v1 v4 h => kb 0 x fun x => G x v1 v4 h) v0 v1 v4 v5 h
theorem n4_eq {R : Type} (k : Nat) (G : KT2 R) (σ : GS) (h : Heap) : KC k 27 c4 σ h (fun x σ h => G x (σ 1) (σ 4) h) = n4 k G (σ 0) (σ 1) (σ 4) (σ 5) h := (kblock_eq (a := c5) rfl).trans (n5_eq k (fun x v1 v4 h => kb 0 x fun x => G x v1 v4 h) σ h)
noncomputable def c12 : Code := cL c3
@[simp] def n3 {R : Type} (k : Nat) (G : KT2 R) (v0 v1 v4 : GV) (h : Heap) : Option R := n4 k G v0 v1 v4 (.int .i64 0) h
theorem n3_eq0 {R : Type} (k : Nat) (G : KT2 R) (σ : GS) (h : Heap) : KC k 27 c12 σ h (fun x σ h => kx x (n4 k G (σ 0) (σ 1) (σ 4) (σ 5) h) (G x (σ 1) (σ 4) h)) = n3 k G (σ 0) (σ 1) (σ 4) h := by kernel_rfl
theorem n3_eq {R : Type} (k : Nat) (G : KT2 R) (σ : GS) (h : Heap) : KC k 27 c3 σ h (fun x σ h => G x (σ 1) (σ 4) h) = n3 k G (σ 0) (σ 1) (σ 4) h := (kseq (b := c4) rfl (fun σ h => n4_eq k G σ h)).trans (n3_eq0 k G σ h)
@[simp] def n1 {R : Type} (k : Nat) (G : KT1 R) (v0 v1 v4 : GV) (h : Heap) : Option R := n3 k (fun x v1 v4 h => kx x (n2 k G v1 h) (G x v4 h)) v0 v1 v4 h
theorem n1_eq {R : Type} (k : Nat) (G : KT1 R) (σ : GS) (h : Heap) : KC k 27 c1 σ h (fun x σ h => G x (σ 4) h) = n1 k G (σ 0) (σ 1) (σ 4) h := (kseq (b := c2) rfl (fun σ h => n2_eq k G σ h)).trans (n3_eq k (fun x v1 v4 h => kx x (n2 k G v1 h) (G x v4 h)) σ h)
noncomputable def c13 : Code := cL c0
@[simp] def n0 {R : Type} (k : Nat) (G : KT1 R) (v0 v1 : GV) (h : Heap) : Option R := n1 k G v0 v1 (.int .i64 0) h
theorem n0_eq0 {R : Type} (k : Nat) (G : KT1 R) (σ : GS) (h : Heap) : KC k 27 c13 σ h (fun x σ h => kx x (n1 k G (σ 0) (σ 1) (σ 4) h) (G x (σ 4) h)) = n0 k G (σ 0) (σ 1) h := by kernel_rfl
theorem n0_eq {R : Type} (k : Nat) (G : KT1 R) (σ : GS) (h : Heap) : KC k 27 c0 σ h (fun x σ h => G x (σ 4) h) = n0 k G (σ 0) (σ 1) h := (kseq (b := c1) rfl (fun σ h => n1_eq k G σ h)).trans (n0_eq0 k G σ h)
def run {R : Type} (k : Nat) (a0 : GV) (a1 : GV) (h : Heap) (fin : GV → Heap → Option R) : Option R := n0 k (fun x v4 h => kend x (fin v4 h)) a0 a1 h
theorem run_eq {R : Type} (k : Nat) (a0 : GV) (a1 : GV) (h : Heap) (fin : GV → Heap → Option R) : kfun PP cfg NN HH k fn.laws_markServerS [a0, a1] h fin = run k a0 a1 h fin := (kfun_eq (nt := 27) (c := c0) (show PP.funcs[fn.laws_markServerS]? = some Try.f64 by kernel_rfl) (by kernel_rfl) (by kernel_rfl) (fun x σ h => by cases x <;> kernel_rfl)).trans (n0_eq k (fun x v4 h => kend x (fin v4 h)) _ h)
theorem gives {k : Nat} {a0 : GV} {a1 : GV} {h : Heap} {r : GV × Heap} (e : run k a0 a1 h finH = some r) : HH fn.laws_markServerS [a0, a1] h = some r := kω_of ((run_eq k a0 a1 h finH).trans e)
end S.laws_markServerS
/-! laws_markStringSS -/
namespace S.laws_markStringSS
noncomputable def c0 : Code := bodyOf Try.f65
noncomputable def c1 : Code := cR c0
noncomputable def c2 : Code := cR c1
@[simp] def n2 {R : Type} (k : Nat) (G : KT1 R) (v1 : GV) (h : Heap) : Option R := G .ret v1 h
theorem n2_eq {R : Type} (k : Nat) (G : KT1 R) (σ : GS) (h : Heap) : KC k 19 c2 σ h (fun x σ h => G x (σ 4) h) = n2 k G (σ 1) h := by kernel_rfl
noncomputable def c3 : Code := cL c1
noncomputable def c4 : Code := cR c3
noncomputable def c5 : Code := cL c4
noncomputable def c6 : Code := cL c5
noncomputable def c7 : Code := cR c6
noncomputable def c8 : Code := cR c7
@[simp] def n8 {R : Type} (k : Nat) (G : KT4 R) (v0 v1 v4 v5 : GV) (h : Heap) : Option R := (kbin .add v5 (.int .i64 1)).bind fun v11 => G .nrm v0 v1 v4 v11 h
theorem n8_eq {R : Type} (k : Nat) (G : KT4 R) (σ : GS) (h : Heap) : KC k 19 c8 σ h (fun x σ h => G x (σ 0) (σ 1) (σ 4) (σ 5) h) = n8 k G (σ 0) (σ 1) (σ 4) (σ 5) h := by kernel_rfl
noncomputable def c9 : Code := cL c7
noncomputable def c10 : Code := cL c9
@[simp] def n10 {R : Type} (k : Nat) (G : KT4 R) (v0 v1 v4 v5 : GV) (h : Heap) : Option R := (kia 1 v0 v5).bind fun v14 => (kload1 h v14).bind fun v15 => (HH fn.laws_markStringS [v15, v1] h).bind fun r => kr r fun v17 h => G .nrm v0 v17 v4 v5 h
theorem n10_eq {R : Type} (k : Nat) (G : KT4 R) (σ : GS) (h : Heap) : KC k 19 c10 σ h (fun x σ h => G x (σ 0) (σ 1) (σ 4) (σ 5) h) = n10 k G (σ 0) (σ 1) (σ 4) (σ 5) h := by kernel_rfl
@[simp] def n9 {R : Type} (k : Nat) (G : KT4 R) (v0 v1 v4 v5 : GV) (h : Heap) : Option R := n10 k (fun x v0 v1 v4 v5 h => kb 1 x fun x => G x v0 v1 v4 v5 h) v0 v1 v4 v5 h
theorem n9_eq {R : Type} (k : Nat) (G : KT4 R) (σ : GS) (h : Heap) : KC k 19 c9 σ h (fun x σ h => G x (σ 0) (σ 1) (σ 4) (σ 5) h) = n9 k G (σ 0) (σ 1) (σ 4) (σ 5) h := (kblock_eq (a := c10) rfl).trans (n10_eq k (fun x v0 v1 v4 v5 h => kb 1 x fun x => G x v0 v1 v4 v5 h) σ h)
@[simp] def n7 {R : Type} (k : Nat) (G : KT4 R) (v0 v1 v4 v5 : GV) (h : Heap) : Option R := n9 k (fun x v0 v1 v4 v5 h => kx x (n8 k G v0 v1 v4 v5 h) (G x v0 v1 v4 v5 h)) v0 v1 v4 v5 h
theorem n7_eq {R : Type} (k : Nat) (G : KT4 R) (σ : GS) (h : Heap) : KC k 19 c7 σ h (fun x σ h => G x (σ 0) (σ 1) (σ 4) (σ 5) h) = n7 k G (σ 0) (σ 1) (σ 4) (σ 5) h := (kseq (b := c8) rfl (fun σ h => n8_eq k G σ h)).trans (n9_eq k (fun x v0 v1 v4 v5 h => kx x (n8 k G v0 v1 v4 v5 h) (G x v0 v1 v4 v5 h)) σ h)
noncomputable def c11 : Code := cL c6
@[simp] def n6 {R : Type} (k : Nat) (G : KT4 R) (v0 v1 v4 v5 : GV) (h : Heap) : Option R := (klen v0).bind fun v8 => (kbin .lss v5 v8).bind fun v9 => kcond v9 (n7 k G v0 v1 v4 v5 h) (G (.ext 0) v0 v1 v4 v5 h)
theorem n6_eq0 {R : Type} (k : Nat) (G : KT4 R) (σ : GS) (h : Heap) : KC k 19 c11 σ h (fun x σ h => kx x (n7 k G (σ 0) (σ 1) (σ 4) (σ 5) h) (G x (σ 0) (σ 1) (σ 4) (σ 5) h)) = n6 k G (σ 0) (σ 1) (σ 4) (σ 5) h := by kernel_rfl
theorem n6_eq {R : Type} (k : Nat) (G : KT4 R) (σ : GS) (h : Heap) : KC k 19 c6 σ h (fun x σ h => G x (σ 0) (σ 1) (σ 4) (σ 5) h) = n6 k G (σ 0) (σ 1) (σ 4) (σ 5) h := (kseq (b := c7) rfl (fun σ h => n7_eq k G σ h)).trans (n6_eq0 k G σ h)
def l5 {R : Type} (k : Nat) (G : KT2 R) : Nat → GV → GV → GV → GV → Heap → Option R
  | 0, _, _, _, _, _ => none
  | r + 1, v0, v1, v4, v5, h => n6 k (fun x v0 v1 v4 v5 h => kx x (l5 k G r v0 v1 v4 v5 h) (G x v1 v4 h)) v0 v1 v4 v5 h
theorem l5_eq {R : Type} (k : Nat) (G : KT2 R) : ∀ (r : Nat) (σ : GS) (h : Heap), kloop (fun σ h K => KC k 19 c6 σ h K) r σ h (fun x σ h => G x (σ 1) (σ 4) h) = l5 k G r (σ 0) (σ 1) (σ 4) (σ 5) h
  | 0, _, _ => rfl
  | r + 1, σ, h => (kloop_eq (fun σ h => l5_eq k G r σ h)).trans (n6_eq k (fun x v0 v1 v4 v5 h => kx x (l5 k G r v0 v1 v4 v5 h) (G x v1 v4 h)) σ h)
@[simp] def n5 {R : Type} (k : Nat) (G : KT2 R) (v0 v1 v4 v5 : GV) (h : Heap) : Option R := l5 k G k v0 v1 v4 v5 h
theorem n5_eq {R : Type} (k : Nat) (G : KT2 R) (σ : GS) (h : Heap) : KC k 19 c5 σ h (fun x σ h => G x (σ 1) (σ 4) h) = n5 k G (σ 0) (σ 1) (σ 4) (σ 5) h := (kloopc_eq (a := c6) rfl).trans (l5_eq k G k σ h)
@[simp] def n4 {R : Type} (k : Nat) (G : KT2 R) (v0 v1 v4 v5 : GV) (h : Heap) : Option R := n5 k (fun x v1 v4 h => kb 0 x fun x => G x v1 v4 h) v0 v1 v4 v5 h
theorem n4_eq {R : Type} (k : Nat) (G : KT2 R) (σ : GS) (h : Heap) : KC k 19 c4 σ h (fun x σ h => G x (σ 1) (σ 4) h) = n4 k G (σ 0) (σ 1) (σ 4) (σ 5) h := (kblock_eq (a := c5) rfl).trans (n5_eq k (fun x v1 v4 h => kb 0 x fun x => G x v1 v4 h) σ h)
noncomputable def c12 : Code := cL c3
@[simp] def n3 {R : Type} (k : Nat) (G : KT2 R) (v0 v1 v4 : GV) (h : Heap) : Option R := n4 k G v0 v1 v4 (.int .i64 0) h
theorem n3_eq0 {R : Type} (k : Nat) (G : KT2 R) (σ : GS) (h : Heap) : KC k 19 c12 σ h (fun x σ h => kx x (n4 k G (σ 0) (σ 1) (σ 4) (σ 5) h) (G x (σ 1) (σ 4) h)) = n3 k G (σ 0) (σ 1) (σ 4) h := by kernel_rfl
theorem n3_eq {R : Type} (k : Nat) (G : KT2 R) (σ : GS) (h : Heap) : KC k 19 c3 σ h (fun x σ h => G x (σ 1) (σ 4) h) = n3 k G (σ 0) (σ 1) (σ 4) h := (kseq (b := c4) rfl (fun σ h => n4_eq k G σ h)).trans (n3_eq0 k G σ h)
@[simp] def n1 {R : Type} (k : Nat) (G : KT1 R) (v0 v1 v4 : GV) (h : Heap) : Option R := n3 k (fun x v1 v4 h => kx x (n2 k G v1 h) (G x v4 h)) v0 v1 v4 h
theorem n1_eq {R : Type} (k : Nat) (G : KT1 R) (σ : GS) (h : Heap) : KC k 19 c1 σ h (fun x σ h => G x (σ 4) h) = n1 k G (σ 0) (σ 1) (σ 4) h := (kseq (b := c2) rfl (fun σ h => n2_eq k G σ h)).trans (n3_eq k (fun x v1 v4 h => kx x (n2 k G v1 h) (G x v4 h)) σ h)
noncomputable def c13 : Code := cL c0
@[simp] def n0 {R : Type} (k : Nat) (G : KT1 R) (v0 v1 : GV) (h : Heap) : Option R := n1 k G v0 v1 (.int .i64 0) h
theorem n0_eq0 {R : Type} (k : Nat) (G : KT1 R) (σ : GS) (h : Heap) : KC k 19 c13 σ h (fun x σ h => kx x (n1 k G (σ 0) (σ 1) (σ 4) h) (G x (σ 4) h)) = n0 k G (σ 0) (σ 1) h := by kernel_rfl
theorem n0_eq {R : Type} (k : Nat) (G : KT1 R) (σ : GS) (h : Heap) : KC k 19 c0 σ h (fun x σ h => G x (σ 4) h) = n0 k G (σ 0) (σ 1) h := (kseq (b := c1) rfl (fun σ h => n1_eq k G σ h)).trans (n0_eq0 k G σ h)
def run {R : Type} (k : Nat) (a0 : GV) (a1 : GV) (h : Heap) (fin : GV → Heap → Option R) : Option R := n0 k (fun x v4 h => kend x (fin v4 h)) a0 a1 h
theorem run_eq {R : Type} (k : Nat) (a0 : GV) (a1 : GV) (h : Heap) (fin : GV → Heap → Option R) : kfun PP cfg NN HH k fn.laws_markStringSS [a0, a1] h fin = run k a0 a1 h fin := (kfun_eq (nt := 19) (c := c0) (show PP.funcs[fn.laws_markStringSS]? = some Try.f65 by kernel_rfl) (by kernel_rfl) (by kernel_rfl) (fun x σ h => by cases x <;> kernel_rfl)).trans (n0_eq k (fun x v4 h => kend x (fin v4 h)) _ h)
theorem gives {k : Nat} {a0 : GV} {a1 : GV} {h : Heap} {r : GV × Heap} (e : run k a0 a1 h finH = some r) : HH fn.laws_markStringSS [a0, a1] h = some r := kω_of ((run_eq k a0 a1 h finH).trans e)
end S.laws_markStringSS
/-! laws_markInt64SS -/
namespace S.laws_markInt64SS
noncomputable def c0 : Code := bodyOf Try.f66
noncomputable def c1 : Code := cR c0
noncomputable def c2 : Code := cR c1
@[simp] def n2 {R : Type} (k : Nat) (G : KT1 R) (v1 : GV) (h : Heap) : Option R := G .ret v1 h
theorem n2_eq {R : Type} (k : Nat) (G : KT1 R) (σ : GS) (h : Heap) : KC k 19 c2 σ h (fun x σ h => G x (σ 4) h) = n2 k G (σ 1) h := by kernel_rfl
noncomputable def c3 : Code := cL c1
noncomputable def c4 : Code := cR c3
noncomputable def c5 : Code := cL c4
noncomputable def c6 : Code := cL c5
noncomputable def c7 : Code := cR c6
noncomputable def c8 : Code := cR c7
@[simp] def n8 {R : Type} (k : Nat) (G : KT4 R) (v0 v1 v4 v5 : GV) (h : Heap) : Option R := (kbin .add v5 (.int .i64 1)).bind fun v11 => G .nrm v0 v1 v4 v11 h
theorem n8_eq {R : Type} (k : Nat) (G : KT4 R) (σ : GS) (h : Heap) : KC k 19 c8 σ h (fun x σ h => G x (σ 0) (σ 1) (σ 4) (σ 5) h) = n8 k G (σ 0) (σ 1) (σ 4) (σ 5) h := by kernel_rfl
noncomputable def c9 : Code := cL c7
noncomputable def c10 : Code := cL c9
@[simp] def n10 {R : Type} (k : Nat) (G : KT4 R) (v0 v1 v4 v5 : GV) (h : Heap) : Option R := (kia 1 v0 v5).bind fun v14 => (kload1 h v14).bind fun v15 => (HH fn.laws_markInt64S [v15, v1] h).bind fun r => kr r fun v17 h => G .nrm v0 v17 v4 v5 h
theorem n10_eq {R : Type} (k : Nat) (G : KT4 R) (σ : GS) (h : Heap) : KC k 19 c10 σ h (fun x σ h => G x (σ 0) (σ 1) (σ 4) (σ 5) h) = n10 k G (σ 0) (σ 1) (σ 4) (σ 5) h := by kernel_rfl
@[simp] def n9 {R : Type} (k : Nat) (G : KT4 R) (v0 v1 v4 v5 : GV) (h : Heap) : Option R := n10 k (fun x v0 v1 v4 v5 h => kb 1 x fun x => G x v0 v1 v4 v5 h) v0 v1 v4 v5 h
theorem n9_eq {R : Type} (k : Nat) (G : KT4 R) (σ : GS) (h : Heap) : KC k 19 c9 σ h (fun x σ h => G x (σ 0) (σ 1) (σ 4) (σ 5) h) = n9 k G (σ 0) (σ 1) (σ 4) (σ 5) h := (kblock_eq (a := c10) rfl).trans (n10_eq k (fun x v0 v1 v4 v5 h => kb 1 x fun x => G x v0 v1 v4 v5 h) σ h)
@[simp] def n7 {R : Type} (k : Nat) (G : KT4 R) (v0 v1 v4 v5 : GV) (h : Heap) : Option R := n9 k (fun x v0 v1 v4 v5 h => kx x (n8 k G v0 v1 v4 v5 h) (G x v0 v1 v4 v5 h)) v0 v1 v4 v5 h
theorem n7_eq {R : Type} (k : Nat) (G : KT4 R) (σ : GS) (h : Heap) : KC k 19 c7 σ h (fun x σ h => G x (σ 0) (σ 1) (σ 4) (σ 5) h) = n7 k G (σ 0) (σ 1) (σ 4) (σ 5) h := (kseq (b := c8) rfl (fun σ h => n8_eq k G σ h)).trans (n9_eq k (fun x v0 v1 v4 v5 h => kx x (n8 k G v0 v1 v4 v5 h) (G x v0 v1 v4 v5 h)) σ h)
noncomputable def c11 : Code := cL c6
@[simp] def n6 {R : Type} (k : Nat) (G : KT4 R) (v0 v1 v4 v5 : GV) (h : Heap) : Option R := (klen v0).bind fun v8 => (kbin .lss v5 v8).bind fun v9 => kcond v9 (n7 k G v0 v1 v4 v5 h) (G (.ext 0) v0 v1 v4 v5 h)
theorem n6_eq0 {R : Type} (k : Nat) (G : KT4 R) (σ : GS) (h : Heap) : KC k 19 c11 σ h (fun x σ h => kx x (n7 k G (σ 0) (σ 1) (σ 4) (σ 5) h) (G x (σ 0) (σ 1) (σ 4) (σ 5) h)) = n6 k G (σ 0) (σ 1) (σ 4) (σ 5) h := by kernel_rfl
theorem n6_eq {R : Type} (k : Nat) (G : KT4 R) (σ : GS) (h : Heap) : KC k 19 c6 σ h (fun x σ h => G x (σ 0) (σ 1) (σ 4) (σ 5) h) = n6 k G (σ 0) (σ 1) (σ 4) (σ 5) h := (kseq (b := c7) rfl (fun σ h => n7_eq k G σ h)).trans (n6_eq0 k G σ h)
def l5 {R : Type} (k : Nat) (G : KT2 R) : Nat → GV → GV → GV → GV → Heap → Option R
  | 0, _, _, _, _, _ => none
  | r + 1, v0, v1, v4, v5, h => n6 k (fun x v0 v1 v4 v5 h => kx x (l5 k G r v0 v1 v4 v5 h) (G x v1 v4 h)) v0 v1 v4 v5 h
theorem l5_eq {R : Type} (k : Nat) (G : KT2 R) : ∀ (r : Nat) (σ : GS) (h : Heap), kloop (fun σ h K => KC k 19 c6 σ h K) r σ h (fun x σ h => G x (σ 1) (σ 4) h) = l5 k G r (σ 0) (σ 1) (σ 4) (σ 5) h
  | 0, _, _ => rfl
  | r + 1, σ, h => (kloop_eq (fun σ h => l5_eq k G r σ h)).trans (n6_eq k (fun x v0 v1 v4 v5 h => kx x (l5 k G r v0 v1 v4 v5 h) (G x v1 v4 h)) σ h)
@[simp] def n5 {R : Type} (k : Nat) (G : KT2 R) (v0 v1 v4 v5 : GV) (h : Heap) : Option R := l5 k G k v0 v1 v4 v5 h
theorem n5_eq {R : Type} (k : Nat) (G : KT2 R) (σ : GS) (h : Heap) : KC k 19 c5 σ h (fun x σ h => G x (σ 1) (σ 4) h) = n5 k G (σ 0) (σ 1) (σ 4) (σ 5) h := (kloopc_eq (a := c6) rfl).trans (l5_eq k G k σ h)
@[simp] def n4 {R : Type} (k : Nat) (G : KT2 R) (v0 v1 v4 v5 : GV) (h : Heap) : Option R := n5 k (fun x v1 v4 h => kb 0 x fun x => G x v1 v4 h) v0 v1 v4 v5 h
theorem n4_eq {R : Type} (k : Nat) (G : KT2 R) (σ : GS) (h : Heap) : KC k 19 c4 σ h (fun x σ h => G x (σ 1) (σ 4) h) = n4 k G (σ 0) (σ 1) (σ 4) (σ 5) h := (kblock_eq (a := c5) rfl).trans (n5_eq k (fun x v1 v4 h => kb 0 x fun x => G x v1 v4 h) σ h)
noncomputable def c12 : Code := cL c3
@[simp] def n3 {R : Type} (k : Nat) (G : KT2 R) (v0 v1 v4 : GV) (h : Heap) : Option R := n4 k G v0 v1 v4 (.int .i64 0) h
theorem n3_eq0 {R : Type} (k : Nat) (G : KT2 R) (σ : GS) (h : Heap) : KC k 19 c12 σ h (fun x σ h => kx x (n4 k G (σ 0) (σ 1) (σ 4) (σ 5) h) (G x (σ 1) (σ 4) h)) = n3 k G (σ 0) (σ 1) (σ 4) h := by kernel_rfl
theorem n3_eq {R : Type} (k : Nat) (G : KT2 R) (σ : GS) (h : Heap) : KC k 19 c3 σ h (fun x σ h => G x (σ 1) (σ 4) h) = n3 k G (σ 0) (σ 1) (σ 4) h := (kseq (b := c4) rfl (fun σ h => n4_eq k G σ h)).trans (n3_eq0 k G σ h)
@[simp] def n1 {R : Type} (k : Nat) (G : KT1 R) (v0 v1 v4 : GV) (h : Heap) : Option R := n3 k (fun x v1 v4 h => kx x (n2 k G v1 h) (G x v4 h)) v0 v1 v4 h
theorem n1_eq {R : Type} (k : Nat) (G : KT1 R) (σ : GS) (h : Heap) : KC k 19 c1 σ h (fun x σ h => G x (σ 4) h) = n1 k G (σ 0) (σ 1) (σ 4) h := (kseq (b := c2) rfl (fun σ h => n2_eq k G σ h)).trans (n3_eq k (fun x v1 v4 h => kx x (n2 k G v1 h) (G x v4 h)) σ h)
noncomputable def c13 : Code := cL c0
@[simp] def n0 {R : Type} (k : Nat) (G : KT1 R) (v0 v1 : GV) (h : Heap) : Option R := n1 k G v0 v1 (.int .i64 0) h
theorem n0_eq0 {R : Type} (k : Nat) (G : KT1 R) (σ : GS) (h : Heap) : KC k 19 c13 σ h (fun x σ h => kx x (n1 k G (σ 0) (σ 1) (σ 4) h) (G x (σ 4) h)) = n0 k G (σ 0) (σ 1) h := by kernel_rfl
theorem n0_eq {R : Type} (k : Nat) (G : KT1 R) (σ : GS) (h : Heap) : KC k 19 c0 σ h (fun x σ h => G x (σ 4) h) = n0 k G (σ 0) (σ 1) h := (kseq (b := c1) rfl (fun σ h => n1_eq k G σ h)).trans (n0_eq0 k G σ h)
def run {R : Type} (k : Nat) (a0 : GV) (a1 : GV) (h : Heap) (fin : GV → Heap → Option R) : Option R := n0 k (fun x v4 h => kend x (fin v4 h)) a0 a1 h
theorem run_eq {R : Type} (k : Nat) (a0 : GV) (a1 : GV) (h : Heap) (fin : GV → Heap → Option R) : kfun PP cfg NN HH k fn.laws_markInt64SS [a0, a1] h fin = run k a0 a1 h fin := (kfun_eq (nt := 19) (c := c0) (show PP.funcs[fn.laws_markInt64SS]? = some Try.f66 by kernel_rfl) (by kernel_rfl) (by kernel_rfl) (fun x σ h => by cases x <;> kernel_rfl)).trans (n0_eq k (fun x v4 h => kend x (fin v4 h)) _ h)
theorem gives {k : Nat} {a0 : GV} {a1 : GV} {h : Heap} {r : GV × Heap} (e : run k a0 a1 h finH = some r) : HH fn.laws_markInt64SS [a0, a1] h = some r := kω_of ((run_eq k a0 a1 h finH).trans e)
end S.laws_markInt64SS
/-! laws_markText -/
namespace S.laws_markText
noncomputable def c0 : Code := bodyOf Try.f67
noncomputable def c1 : Code := cR c0
noncomputable def c2 : Code := cR c1
noncomputable def c3 : Code := cR c2
noncomputable def c4 : Code := cR c3
@[simp] def n4 {R : Type} (k : Nat) (G : KT1 R) (v3 : GV) (h : Heap) : Option R := (kbin .add (.str { data := #[109] }) v3).bind fun v19 => G .ret v19 h
theorem n4_eq {R : Type} (k : Nat) (G : KT1 R) (σ : GS) (h : Heap) : KC k 20 c4 σ h (fun x σ h => G x (σ 2) h) = n4 k G (σ 3) h := by kernel_rfl
noncomputable def c5 : Code := cL c3
noncomputable def c6 : Code := cL c5
noncomputable def c7 : Code := cL c6
noncomputable def c8 : Code := cR c7
noncomputable def c9 : Code := cL c8
@[simp] def n9 {R : Type} (k : Nat) (G : KT3 R) (v0 v2 v3 : GV) (h : Heap) : Option R := (kbin .rem v0 (.int .i64 10)).bind fun v9 => (kbin .add (.int .i64 48) v9).bind fun v10 => (kconvI .u8 v10).bind fun v11 => (gfill (fun i => some (i * 1, 1)) (zeros [(.int .u8 0)] 1) [(0, v11)]).bind fun c => kbs 1 1 c h fun v12 h => (kbstr h v12).bind fun v13 => (kbin .add v13 v3).bind fun v15 => (kbin .quo v0 (.int .i64 10)).bind fun v17 => G .nrm v17 v2 v15 h
theorem n9_eq {R : Type} (k : Nat) (G : KT3 R) (σ : GS) (h : Heap) : KC k 20 c9 σ h (fun x σ h => G x (σ 0) (σ 2) (σ 3) h) = n9 k G (σ 0) (σ 2) (σ 3) h := by kernel_rfl
@[simp] def n8 {R : Type} (k : Nat) (G : KT3 R) (v0 v2 v3 : GV) (h : Heap) : Option R := n9 k (fun x v0 v2 v3 h => kb 1 x fun x => G x v0 v2 v3 h) v0 v2 v3 h
theorem n8_eq {R : Type} (k : Nat) (G : KT3 R) (σ : GS) (h : Heap) : KC k 20 c8 σ h (fun x σ h => G x (σ 0) (σ 2) (σ 3) h) = n8 k G (σ 0) (σ 2) (σ 3) h := (kblock_eq (a := c9) rfl).trans (n9_eq k (fun x v0 v2 v3 h => kb 1 x fun x => G x v0 v2 v3 h) σ h)
noncomputable def c10 : Code := cL c7
@[simp] def n7 {R : Type} (k : Nat) (G : KT3 R) (v0 v2 v3 : GV) (h : Heap) : Option R := (kbin .gtr v0 (.int .i64 0)).bind fun v7 => kcond v7 (n8 k G v0 v2 v3 h) (G (.ext 0) v0 v2 v3 h)
theorem n7_eq0 {R : Type} (k : Nat) (G : KT3 R) (σ : GS) (h : Heap) : KC k 20 c10 σ h (fun x σ h => kx x (n8 k G (σ 0) (σ 2) (σ 3) h) (G x (σ 0) (σ 2) (σ 3) h)) = n7 k G (σ 0) (σ 2) (σ 3) h := by kernel_rfl
theorem n7_eq {R : Type} (k : Nat) (G : KT3 R) (σ : GS) (h : Heap) : KC k 20 c7 σ h (fun x σ h => G x (σ 0) (σ 2) (σ 3) h) = n7 k G (σ 0) (σ 2) (σ 3) h := (kseq (b := c8) rfl (fun σ h => n8_eq k G σ h)).trans (n7_eq0 k G σ h)
def l6 {R : Type} (k : Nat) (G : KT2 R) : Nat → GV → GV → GV → Heap → Option R
  | 0, _, _, _, _ => none
  | r + 1, v0, v2, v3, h => n7 k (fun x v0 v2 v3 h => kx x (l6 k G r v0 v2 v3 h) (G x v2 v3 h)) v0 v2 v3 h
theorem l6_eq {R : Type} (k : Nat) (G : KT2 R) : ∀ (r : Nat) (σ : GS) (h : Heap), kloop (fun σ h K => KC k 20 c7 σ h K) r σ h (fun x σ h => G x (σ 2) (σ 3) h) = l6 k G r (σ 0) (σ 2) (σ 3) h
  | 0, _, _ => rfl
  | r + 1, σ, h => (kloop_eq (fun σ h => l6_eq k G r σ h)).trans (n7_eq k (fun x v0 v2 v3 h => kx x (l6 k G r v0 v2 v3 h) (G x v2 v3 h)) σ h)
@[simp] def n6 {R : Type} (k : Nat) (G : KT2 R) (v0 v2 v3 : GV) (h : Heap) : Option R := l6 k G k v0 v2 v3 h
theorem n6_eq {R : Type} (k : Nat) (G : KT2 R) (σ : GS) (h : Heap) : KC k 20 c6 σ h (fun x σ h => G x (σ 2) (σ 3) h) = n6 k G (σ 0) (σ 2) (σ 3) h := (kloopc_eq (a := c7) rfl).trans (l6_eq k G k σ h)
@[simp] def n5 {R : Type} (k : Nat) (G : KT2 R) (v0 v2 v3 : GV) (h : Heap) : Option R := n6 k (fun x v2 v3 h => kb 0 x fun x => G x v2 v3 h) v0 v2 v3 h
theorem n5_eq {R : Type} (k : Nat) (G : KT2 R) (σ : GS) (h : Heap) : KC k 20 c5 σ h (fun x σ h => G x (σ 2) (σ 3) h) = n5 k G (σ 0) (σ 2) (σ 3) h := (kblock_eq (a := c6) rfl).trans (n6_eq k (fun x v2 v3 h => kb 0 x fun x => G x v2 v3 h) σ h)
@[simp] def n3 {R : Type} (k : Nat) (G : KT1 R) (v0 v2 v3 : GV) (h : Heap) : Option R := n5 k (fun x v2 v3 h => kx x (n4 k G v3 h) (G x v2 h)) v0 v2 v3 h
theorem n3_eq {R : Type} (k : Nat) (G : KT1 R) (σ : GS) (h : Heap) : KC k 20 c3 σ h (fun x σ h => G x (σ 2) h) = n3 k G (σ 0) (σ 2) (σ 3) h := (kseq (b := c4) rfl (fun σ h => n4_eq k G σ h)).trans (n5_eq k (fun x v2 v3 h => kx x (n4 k G v3 h) (G x v2 h)) σ h)
noncomputable def c11 : Code := cL c2
@[simp] def n2 {R : Type} (k : Nat) (G : KT1 R) (v0 v2 : GV) (h : Heap) : Option R := n3 k G v0 v2 (.str { data := #[] }) h
theorem n2_eq0 {R : Type} (k : Nat) (G : KT1 R) (σ : GS) (h : Heap) : KC k 20 c11 σ h (fun x σ h => kx x (n3 k G (σ 0) (σ 2) (σ 3) h) (G x (σ 2) h)) = n2 k G (σ 0) (σ 2) h := by kernel_rfl
theorem n2_eq {R : Type} (k : Nat) (G : KT1 R) (σ : GS) (h : Heap) : KC k 20 c2 σ h (fun x σ h => G x (σ 2) h) = n2 k G (σ 0) (σ 2) h := (kseq (b := c3) rfl (fun σ h => n3_eq k G σ h)).trans (n2_eq0 k G σ h)
noncomputable def c12 : Code := cL c1
@[simp] def n1 {R : Type} (k : Nat) (G : KT1 R) (v0 v2 : GV) (h : Heap) : Option R := (kbin .leq v0 (.int .i64 0)).bind fun v5 => kcond v5 (G .ret (.str { data := #[109, 48] }) h) (n2 k G v0 v2 h)
theorem n1_eq0 {R : Type} (k : Nat) (G : KT1 R) (σ : GS) (h : Heap) : KC k 20 c12 σ h (fun x σ h => kx x (n2 k G (σ 0) (σ 2) h) (G x (σ 2) h)) = n1 k G (σ 0) (σ 2) h := by kernel_rfl
theorem n1_eq {R : Type} (k : Nat) (G : KT1 R) (σ : GS) (h : Heap) : KC k 20 c1 σ h (fun x σ h => G x (σ 2) h) = n1 k G (σ 0) (σ 2) h := (kseq (b := c2) rfl (fun σ h => n2_eq k G σ h)).trans (n1_eq0 k G σ h)
noncomputable def c13 : Code := cL c0
@[simp] def n0 {R : Type} (k : Nat) (G : KT1 R) (v0 : GV) (h : Heap) : Option R := n1 k G v0 (.str { data := #[] }) h
theorem n0_eq0 {R : Type} (k : Nat) (G : KT1 R) (σ : GS) (h : Heap) : KC k 20 c13 σ h (fun x σ h => kx x (n1 k G (σ 0) (σ 2) h) (G x (σ 2) h)) = n0 k G (σ 0) h := by kernel_rfl
theorem n0_eq {R : Type} (k : Nat) (G : KT1 R) (σ : GS) (h : Heap) : KC k 20 c0 σ h (fun x σ h => G x (σ 2) h) = n0 k G (σ 0) h := (kseq (b := c1) rfl (fun σ h => n1_eq k G σ h)).trans (n0_eq0 k G σ h)
def run {R : Type} (k : Nat) (a0 : GV) (h : Heap) (fin : GV → Heap → Option R) : Option R := n0 k (fun x v2 h => kend x (fin v2 h)) a0 h
theorem run_eq {R : Type} (k : Nat) (a0 : GV) (h : Heap) (fin : GV → Heap → Option R) : kfun PP cfg NN HH k fn.laws_markText [a0] h fin = run k a0 h fin := (kfun_eq (nt := 20) (c := c0) (show PP.funcs[fn.laws_markText]? = some Try.f67 by kernel_rfl) (by kernel_rfl) (by kernel_rfl) (fun x σ h => by cases x <;> kernel_rfl)).trans (n0_eq k (fun x v2 h => kend x (fin v2 h)) _ h)
theorem gives {k : Nat} {a0 : GV} {v : GV} (e : run k a0 [] finN = some v) : NN fn.laws_markText [a0] = some v := nω_of (by kernel_rfl) ((run_eq k a0 [] finN).trans e)
end S.laws_markText
/-! laws_heldServerS -/
namespace S.laws_heldServerS
noncomputable def c0 : Code := bodyOf Try.f73
noncomputable def c1 : Code := cR c0
noncomputable def c2 : Code := cR c1
@[simp] def n2 {R : Type} (k : Nat) (G : KT1 R) (v1 : GV) (h : Heap) : Option R := G .ret v1 h
theorem n2_eq {R : Type} (k : Nat) (G : KT1 R) (σ : GS) (h : Heap) : KC k 31 c2 σ h (fun x σ h => G x (σ 4) h) = n2 k G (σ 1) h := by kernel_rfl
noncomputable def c3 : Code := cL c1
noncomputable def c4 : Code := cR c3
noncomputable def c5 : Code := cL c4
noncomputable def c6 : Code := cL c5
noncomputable def c7 : Code := cR c6
noncomputable def c8 : Code := cR c7
@[simp] def n8 {R : Type} (k : Nat) (G : KT4 R) (v0 v1 v4 v5 : GV) (h : Heap) : Option R := (kbin .add v5 (.int .i64 1)).bind fun v11 => G .nrm v0 v1 v4 v11 h
theorem n8_eq {R : Type} (k : Nat) (G : KT4 R) (σ : GS) (h : Heap) : KC k 31 c8 σ h (fun x σ h => G x (σ 0) (σ 1) (σ 4) (σ 5) h) = n8 k G (σ 0) (σ 1) (σ 4) (σ 5) h := by kernel_rfl
noncomputable def c9 : Code := cL c7
noncomputable def c10 : Code := cL c9
@[simp] def n10 {R : Type} (k : Nat) (G : KT4 R) (v0 v1 v4 v5 : GV) (h : Heap) : Option R := (kia 2 v0 v5).bind fun v14 => (kfa 0 v14).bind fun v15 => (kload1 h v15).bind fun v16 => (kN NN fn.laws_heldStringS [v16, v1] h).bind fun v18 => (kbin .lss v18 (.int .i64 0)).bind fun v20 => kcond v20 (G .ret v0 v18 (.int .i64 (-1)) v5 h) ((kia 2 v0 v5).bind fun v23 => (kfa 1 v23).bind fun v24 => (kload1 h v24).bind fun v25 => (kbin .neq v25 v18).bind fun v27 => kcond v27 (G .ret v0 v18 (.int .i64 (-1)) v5 h) ((kbin .add v18 (.int .i64 1)).bind fun v29 => G .nrm v0 v29 v4 v5 h))
theorem n10_eq {R : Type} (k : Nat) (G : KT4 R) (σ : GS) (h : Heap) : KC k 31 c10 σ h (fun x σ h => G x (σ 0) (σ 1) (σ 4) (σ 5) h) = n10 k G (σ 0) (σ 1) (σ 4) (σ 5) h := by kernel_rfl
@[simp] def n9 {R : Type} (k : Nat) (G : KT4 R) (v0 v1 v4 v5 : GV) (h : Heap) : Option R := n10 k (fun x v0 v1 v4 v5 h => kb 1 x fun x => G x v0 v1 v4 v5 h) v0 v1 v4 v5 h
theorem n9_eq {R : Type} (k : Nat) (G : KT4 R) (σ : GS) (h : Heap) : KC k 31 c9 σ h (fun x σ h => G x (σ 0) (σ 1) (σ 4) (σ 5) h) = n9 k G (σ 0) (σ 1) (σ 4) (σ 5) h := (kblock_eq (a := c10) rfl).trans (n10_eq k (fun x v0 v1 v4 v5 h => kb 1 x fun x => G x v0 v1 v4 v5 h) σ h)
@[simp] def n7 {R : Type} (k : Nat) (G : KT4 R) (v0 v1 v4 v5 : GV) (h : Heap) : Option R := n9 k (fun x v0 v1 v4 v5 h => kx x (n8 k G v0 v1 v4 v5 h) (G x v0 v1 v4 v5 h)) v0 v1 v4 v5 h
theorem n7_eq {R : Type} (k : Nat) (G : KT4 R) (σ : GS) (h : Heap) : KC k 31 c7 σ h (fun x σ h => G x (σ 0) (σ 1) (σ 4) (σ 5) h) = n7 k G (σ 0) (σ 1) (σ 4) (σ 5) h := (kseq (b := c8) rfl (fun σ h => n8_eq k G σ h)).trans (n9_eq k (fun x v0 v1 v4 v5 h => kx x (n8 k G v0 v1 v4 v5 h) (G x v0 v1 v4 v5 h)) σ h)
noncomputable def c11 : Code := cL c6
@[simp] def n6 {R : Type} (k : Nat) (G : KT4 R) (v0 v1 v4 v5 : GV) (h : Heap) : Option R := (klen v0).bind fun v8 => (kbin .lss v5 v8).bind fun v9 => kcond v9 (n7 k G v0 v1 v4 v5 h) (G (.ext 0) v0 v1 v4 v5 h)
theorem n6_eq0 {R : Type} (k : Nat) (G : KT4 R) (σ : GS) (h : Heap) : KC k 31 c11 σ h (fun x σ h => kx x (n7 k G (σ 0) (σ 1) (σ 4) (σ 5) h) (G x (σ 0) (σ 1) (σ 4) (σ 5) h)) = n6 k G (σ 0) (σ 1) (σ 4) (σ 5) h := by kernel_rfl
theorem n6_eq {R : Type} (k : Nat) (G : KT4 R) (σ : GS) (h : Heap) : KC k 31 c6 σ h (fun x σ h => G x (σ 0) (σ 1) (σ 4) (σ 5) h) = n6 k G (σ 0) (σ 1) (σ 4) (σ 5) h := (kseq (b := c7) rfl (fun σ h => n7_eq k G σ h)).trans (n6_eq0 k G σ h)
def l5 {R : Type} (k : Nat) (G : KT2 R) : Nat → GV → GV → GV → GV → Heap → Option R
  | 0, _, _, _, _, _ => none
  | r + 1, v0, v1, v4, v5, h => n6 k (fun x v0 v1 v4 v5 h => kx x (l5 k G r v0 v1 v4 v5 h) (G x v1 v4 h)) v0 v1 v4 v5 h
theorem l5_eq {R : Type} (k : Nat) (G : KT2 R) : ∀ (r : Nat) (σ : GS) (h : Heap), kloop (fun σ h K => KC k 31 c6 σ h K) r σ h (fun x σ h => G x (σ 1) (σ 4) h) = l5 k G r (σ 0) (σ 1) (σ 4) (σ 5) h
  | 0, _, _ => rfl
  | r + 1, σ, h => (kloop_eq (fun σ h => l5_eq k G r σ h)).trans (n6_eq k (fun x v0 v1 v4 v5 h => kx x (l5 k G r v0 v1 v4 v5 h) (G x v1 v4 h)) σ h)
@[simp] def n5 {R : Type} (k : Nat) (G : KT2 R) (v0 v1 v4 v5 : GV) (h : Heap) : Option R := l5 k G k v0 v1 v4 v5 h
theorem n5_eq {R : Type} (k : Nat) (G : KT2 R) (σ : GS) (h : Heap) : KC k 31 c5 σ h (fun x σ h => G x (σ 1) (σ 4) h) = n5 k G (σ 0) (σ 1) (σ 4) (σ 5) h := (kloopc_eq (a := c6) rfl).trans (l5_eq k G k σ h)
@[simp] def n4 {R : Type} (k : Nat) (G : KT2 R) (v0 v1 v4 v5 : GV) (h : Heap) : Option R := n5 k (fun x v1 v4 h => kb 0 x fun x => G x v1 v4 h) v0 v1 v4 v5 h
theorem n4_eq {R : Type} (k : Nat) (G : KT2 R) (σ : GS) (h : Heap) : KC k 31 c4 σ h (fun x σ h => G x (σ 1) (σ 4) h) = n4 k G (σ 0) (σ 1) (σ 4) (σ 5) h := (kblock_eq (a := c5) rfl).trans (n5_eq k (fun x v1 v4 h => kb 0 x fun x => G x v1 v4 h) σ h)
noncomputable def c12 : Code := cL c3
@[simp] def n3 {R : Type} (k : Nat) (G : KT2 R) (v0 v1 v4 : GV) (h : Heap) : Option R := n4 k G v0 v1 v4 (.int .i64 0) h
theorem n3_eq0 {R : Type} (k : Nat) (G : KT2 R) (σ : GS) (h : Heap) : KC k 31 c12 σ h (fun x σ h => kx x (n4 k G (σ 0) (σ 1) (σ 4) (σ 5) h) (G x (σ 1) (σ 4) h)) = n3 k G (σ 0) (σ 1) (σ 4) h := by kernel_rfl
theorem n3_eq {R : Type} (k : Nat) (G : KT2 R) (σ : GS) (h : Heap) : KC k 31 c3 σ h (fun x σ h => G x (σ 1) (σ 4) h) = n3 k G (σ 0) (σ 1) (σ 4) h := (kseq (b := c4) rfl (fun σ h => n4_eq k G σ h)).trans (n3_eq0 k G σ h)
@[simp] def n1 {R : Type} (k : Nat) (G : KT1 R) (v0 v1 v4 : GV) (h : Heap) : Option R := n3 k (fun x v1 v4 h => kx x (n2 k G v1 h) (G x v4 h)) v0 v1 v4 h
theorem n1_eq {R : Type} (k : Nat) (G : KT1 R) (σ : GS) (h : Heap) : KC k 31 c1 σ h (fun x σ h => G x (σ 4) h) = n1 k G (σ 0) (σ 1) (σ 4) h := (kseq (b := c2) rfl (fun σ h => n2_eq k G σ h)).trans (n3_eq k (fun x v1 v4 h => kx x (n2 k G v1 h) (G x v4 h)) σ h)
noncomputable def c13 : Code := cL c0
@[simp] def n0 {R : Type} (k : Nat) (G : KT1 R) (v0 v1 : GV) (h : Heap) : Option R := n1 k G v0 v1 (.int .i64 0) h
theorem n0_eq0 {R : Type} (k : Nat) (G : KT1 R) (σ : GS) (h : Heap) : KC k 31 c13 σ h (fun x σ h => kx x (n1 k G (σ 0) (σ 1) (σ 4) h) (G x (σ 4) h)) = n0 k G (σ 0) (σ 1) h := by kernel_rfl
theorem n0_eq {R : Type} (k : Nat) (G : KT1 R) (σ : GS) (h : Heap) : KC k 31 c0 σ h (fun x σ h => G x (σ 4) h) = n0 k G (σ 0) (σ 1) h := (kseq (b := c1) rfl (fun σ h => n1_eq k G σ h)).trans (n0_eq0 k G σ h)
def run {R : Type} (k : Nat) (a0 : GV) (a1 : GV) (h : Heap) (fin : GV → Heap → Option R) : Option R := n0 k (fun x v4 h => kend x (fin v4 h)) a0 a1 h
theorem run_eq {R : Type} (k : Nat) (a0 : GV) (a1 : GV) (h : Heap) (fin : GV → Heap → Option R) : kfun PP cfg NN HH k fn.laws_heldServerS [a0, a1] h fin = run k a0 a1 h fin := (kfun_eq (nt := 31) (c := c0) (show PP.funcs[fn.laws_heldServerS]? = some Try.f73 by kernel_rfl) (by kernel_rfl) (by kernel_rfl) (fun x σ h => by cases x <;> kernel_rfl)).trans (n0_eq k (fun x v4 h => kend x (fin v4 h)) _ h)
theorem gives {k : Nat} {a0 : GV} {a1 : GV} {v : GV} (e : run k a0 a1 [] finN = some v) : NN fn.laws_heldServerS [a0, a1] = some v := nω_of (by kernel_rfl) ((run_eq k a0 a1 [] finN).trans e)
end S.laws_heldServerS
/-! laws_heldStringSS -/
namespace S.laws_heldStringSS
noncomputable def c0 : Code := bodyOf Try.f74
noncomputable def c1 : Code := cR c0
noncomputable def c2 : Code := cR c1
@[simp] def n2 {R : Type} (k : Nat) (G : KT1 R) (v1 : GV) (h : Heap) : Option R := G .ret v1 h
theorem n2_eq {R : Type} (k : Nat) (G : KT1 R) (σ : GS) (h : Heap) : KC k 21 c2 σ h (fun x σ h => G x (σ 4) h) = n2 k G (σ 1) h := by kernel_rfl
noncomputable def c3 : Code := cL c1
noncomputable def c4 : Code := cR c3
noncomputable def c5 : Code := cL c4
noncomputable def c6 : Code := cL c5
noncomputable def c7 : Code := cR c6
noncomputable def c8 : Code := cR c7
@[simp] def n8 {R : Type} (k : Nat) (G : KT4 R) (v0 v1 v4 v5 : GV) (h : Heap) : Option R := (kbin .add v5 (.int .i64 1)).bind fun v11 => G .nrm v0 v1 v4 v11 h
theorem n8_eq {R : Type} (k : Nat) (G : KT4 R) (σ : GS) (h : Heap) : KC k 21 c8 σ h (fun x σ h => G x (σ 0) (σ 1) (σ 4) (σ 5) h) = n8 k G (σ 0) (σ 1) (σ 4) (σ 5) h := by kernel_rfl
noncomputable def c9 : Code := cL c7
noncomputable def c10 : Code := cL c9
@[simp] def n10 {R : Type} (k : Nat) (G : KT4 R) (v0 v1 v4 v5 : GV) (h : Heap) : Option R := (kia 1 v0 v5).bind fun v14 => (kload1 h v14).bind fun v15 => (kN NN fn.laws_heldStringS [v15, v1] h).bind fun v17 => (kbin .lss v17 (.int .i64 0)).bind fun v19 => kcond v19 (G .ret v0 v17 (.int .i64 (-1)) v5 h) (G .nrm v0 v17 v4 v5 h)
theorem n10_eq {R : Type} (k : Nat) (G : KT4 R) (σ : GS) (h : Heap) : KC k 21 c10 σ h (fun x σ h => G x (σ 0) (σ 1) (σ 4) (σ 5) h) = n10 k G (σ 0) (σ 1) (σ 4) (σ 5) h := by kernel_rfl
@[simp] def n9 {R : Type} (k : Nat) (G : KT4 R) (v0 v1 v4 v5 : GV) (h : Heap) : Option R := n10 k (fun x v0 v1 v4 v5 h => kb 1 x fun x => G x v0 v1 v4 v5 h) v0 v1 v4 v5 h
theorem n9_eq {R : Type} (k : Nat) (G : KT4 R) (σ : GS) (h : Heap) : KC k 21 c9 σ h (fun x σ h => G x (σ 0) (σ 1) (σ 4) (σ 5) h) = n9 k G (σ 0) (σ 1) (σ 4) (σ 5) h := (kblock_eq (a := c10) rfl).trans (n10_eq k (fun x v0 v1 v4 v5 h => kb 1 x fun x => G x v0 v1 v4 v5 h) σ h)
@[simp] def n7 {R : Type} (k : Nat) (G : KT4 R) (v0 v1 v4 v5 : GV) (h : Heap) : Option R := n9 k (fun x v0 v1 v4 v5 h => kx x (n8 k G v0 v1 v4 v5 h) (G x v0 v1 v4 v5 h)) v0 v1 v4 v5 h
theorem n7_eq {R : Type} (k : Nat) (G : KT4 R) (σ : GS) (h : Heap) : KC k 21 c7 σ h (fun x σ h => G x (σ 0) (σ 1) (σ 4) (σ 5) h) = n7 k G (σ 0) (σ 1) (σ 4) (σ 5) h := (kseq (b := c8) rfl (fun σ h => n8_eq k G σ h)).trans (n9_eq k (fun x v0 v1 v4 v5 h => kx x (n8 k G v0 v1 v4 v5 h) (G x v0 v1 v4 v5 h)) σ h)
noncomputable def c11 : Code := cL c6
@[simp] def n6 {R : Type} (k : Nat) (G : KT4 R) (v0 v1 v4 v5 : GV) (h : Heap) : Option R := (klen v0).bind fun v8 => (kbin .lss v5 v8).bind fun v9 => kcond v9 (n7 k G v0 v1 v4 v5 h) (G (.ext 0) v0 v1 v4 v5 h)
theorem n6_eq0 {R : Type} (k : Nat) (G : KT4 R) (σ : GS) (h : Heap) : KC k 21 c11 σ h (fun x σ h => kx x (n7 k G (σ 0) (σ 1) (σ 4) (σ 5) h) (G x (σ 0) (σ 1) (σ 4) (σ 5) h)) = n6 k G (σ 0) (σ 1) (σ 4) (σ 5) h := by kernel_rfl
theorem n6_eq {R : Type} (k : Nat) (G : KT4 R) (σ : GS) (h : Heap) : KC k 21 c6 σ h (fun x σ h => G x (σ 0) (σ 1) (σ 4) (σ 5) h) = n6 k G (σ 0) (σ 1) (σ 4) (σ 5) h := (kseq (b := c7) rfl (fun σ h => n7_eq k G σ h)).trans (n6_eq0 k G σ h)
def l5 {R : Type} (k : Nat) (G : KT2 R) : Nat → GV → GV → GV → GV → Heap → Option R
  | 0, _, _, _, _, _ => none
  | r + 1, v0, v1, v4, v5, h => n6 k (fun x v0 v1 v4 v5 h => kx x (l5 k G r v0 v1 v4 v5 h) (G x v1 v4 h)) v0 v1 v4 v5 h
theorem l5_eq {R : Type} (k : Nat) (G : KT2 R) : ∀ (r : Nat) (σ : GS) (h : Heap), kloop (fun σ h K => KC k 21 c6 σ h K) r σ h (fun x σ h => G x (σ 1) (σ 4) h) = l5 k G r (σ 0) (σ 1) (σ 4) (σ 5) h
  | 0, _, _ => rfl
  | r + 1, σ, h => (kloop_eq (fun σ h => l5_eq k G r σ h)).trans (n6_eq k (fun x v0 v1 v4 v5 h => kx x (l5 k G r v0 v1 v4 v5 h) (G x v1 v4 h)) σ h)
@[simp] def n5 {R : Type} (k : Nat) (G : KT2 R) (v0 v1 v4 v5 : GV) (h : Heap) : Option R := l5 k G k v0 v1 v4 v5 h
theorem n5_eq {R : Type} (k : Nat) (G : KT2 R) (σ : GS) (h : Heap) : KC k 21 c5 σ h (fun x σ h => G x (σ 1) (σ 4) h) = n5 k G (σ 0) (σ 1) (σ 4) (σ 5) h := (kloopc_eq (a := c6) rfl).trans (l5_eq k G k σ h)
@[simp] def n4 {R : Type} (k : Nat) (G : KT2 R) (v0 v1 v4 v5 : GV) (h : Heap) : Option R := n5 k (fun x v1 v4 h => kb 0 x fun x => G x v1 v4 h) v0 v1 v4 v5 h
theorem n4_eq {R : Type} (k : Nat) (G : KT2 R) (σ : GS) (h : Heap) : KC k 21 c4 σ h (fun x σ h => G x (σ 1) (σ 4) h) = n4 k G (σ 0) (σ 1) (σ 4) (σ 5) h := (kblock_eq (a := c5) rfl).trans (n5_eq k (fun x v1 v4 h => kb 0 x fun x => G x v1 v4 h) σ h)
noncomputable def c12 : Code := cL c3
@[simp] def n3 {R : Type} (k : Nat) (G : KT2 R) (v0 v1 v4 : GV) (h : Heap) : Option R := n4 k G v0 v1 v4 (.int .i64 0) h
theorem n3_eq0 {R : Type} (k : Nat) (G : KT2 R) (σ : GS) (h : Heap) : KC k 21 c12 σ h (fun x σ h => kx x (n4 k G (σ 0) (σ 1) (σ 4) (σ 5) h) (G x (σ 1) (σ 4) h)) = n3 k G (σ 0) (σ 1) (σ 4) h := by kernel_rfl
theorem n3_eq {R : Type} (k : Nat) (G : KT2 R) (σ : GS) (h : Heap) : KC k 21 c3 σ h (fun x σ h => G x (σ 1) (σ 4) h) = n3 k G (σ 0) (σ 1) (σ 4) h := (kseq (b := c4) rfl (fun σ h => n4_eq k G σ h)).trans (n3_eq0 k G σ h)
@[simp] def n1 {R : Type} (k : Nat) (G : KT1 R) (v0 v1 v4 : GV) (h : Heap) : Option R := n3 k (fun x v1 v4 h => kx x (n2 k G v1 h) (G x v4 h)) v0 v1 v4 h
theorem n1_eq {R : Type} (k : Nat) (G : KT1 R) (σ : GS) (h : Heap) : KC k 21 c1 σ h (fun x σ h => G x (σ 4) h) = n1 k G (σ 0) (σ 1) (σ 4) h := (kseq (b := c2) rfl (fun σ h => n2_eq k G σ h)).trans (n3_eq k (fun x v1 v4 h => kx x (n2 k G v1 h) (G x v4 h)) σ h)
noncomputable def c13 : Code := cL c0
@[simp] def n0 {R : Type} (k : Nat) (G : KT1 R) (v0 v1 : GV) (h : Heap) : Option R := n1 k G v0 v1 (.int .i64 0) h
theorem n0_eq0 {R : Type} (k : Nat) (G : KT1 R) (σ : GS) (h : Heap) : KC k 21 c13 σ h (fun x σ h => kx x (n1 k G (σ 0) (σ 1) (σ 4) h) (G x (σ 4) h)) = n0 k G (σ 0) (σ 1) h := by kernel_rfl
theorem n0_eq {R : Type} (k : Nat) (G : KT1 R) (σ : GS) (h : Heap) : KC k 21 c0 σ h (fun x σ h => G x (σ 4) h) = n0 k G (σ 0) (σ 1) h := (kseq (b := c1) rfl (fun σ h => n1_eq k G σ h)).trans (n0_eq0 k G σ h)
def run {R : Type} (k : Nat) (a0 : GV) (a1 : GV) (h : Heap) (fin : GV → Heap → Option R) : Option R := n0 k (fun x v4 h => kend x (fin v4 h)) a0 a1 h
theorem run_eq {R : Type} (k : Nat) (a0 : GV) (a1 : GV) (h : Heap) (fin : GV → Heap → Option R) : kfun PP cfg NN HH k fn.laws_heldStringSS [a0, a1] h fin = run k a0 a1 h fin := (kfun_eq (nt := 21) (c := c0) (show PP.funcs[fn.laws_heldStringSS]? = some Try.f74 by kernel_rfl) (by kernel_rfl) (by kernel_rfl) (fun x σ h => by cases x <;> kernel_rfl)).trans (n0_eq k (fun x v4 h => kend x (fin v4 h)) _ h)
theorem gives {k : Nat} {a0 : GV} {a1 : GV} {v : GV} (e : run k a0 a1 [] finN = some v) : NN fn.laws_heldStringSS [a0, a1] = some v := nω_of (by kernel_rfl) ((run_eq k a0 a1 [] finN).trans e)
end S.laws_heldStringSS
/-! laws_heldInt64SS -/
namespace S.laws_heldInt64SS
noncomputable def c0 : Code := bodyOf Try.f75
noncomputable def c1 : Code := cR c0
noncomputable def c2 : Code := cR c1
@[simp] def n2 {R : Type} (k : Nat) (G : KT1 R) (v1 : GV) (h : Heap) : Option R := G .ret v1 h
theorem n2_eq {R : Type} (k : Nat) (G : KT1 R) (σ : GS) (h : Heap) : KC k 21 c2 σ h (fun x σ h => G x (σ 4) h) = n2 k G (σ 1) h := by kernel_rfl
noncomputable def c3 : Code := cL c1
noncomputable def c4 : Code := cR c3
noncomputable def c5 : Code := cL c4
noncomputable def c6 : Code := cL c5
noncomputable def c7 : Code := cR c6
noncomputable def c8 : Code := cR c7
@[simp] def n8 {R : Type} (k : Nat) (G : KT4 R) (v0 v1 v4 v5 : GV) (h : Heap) : Option R := (kbin .add v5 (.int .i64 1)).bind fun v11 => G .nrm v0 v1 v4 v11 h
theorem n8_eq {R : Type} (k : Nat) (G : KT4 R) (σ : GS) (h : Heap) : KC k 21 c8 σ h (fun x σ h => G x (σ 0) (σ 1) (σ 4) (σ 5) h) = n8 k G (σ 0) (σ 1) (σ 4) (σ 5) h := by kernel_rfl
noncomputable def c9 : Code := cL c7
noncomputable def c10 : Code := cL c9
@[simp] def n10 {R : Type} (k : Nat) (G : KT4 R) (v0 v1 v4 v5 : GV) (h : Heap) : Option R := (kia 1 v0 v5).bind fun v14 => (kload1 h v14).bind fun v15 => (kN NN fn.laws_heldInt64S [v15, v1] h).bind fun v17 => (kbin .lss v17 (.int .i64 0)).bind fun v19 => kcond v19 (G .ret v0 v17 (.int .i64 (-1)) v5 h) (G .nrm v0 v17 v4 v5 h)
theorem n10_eq {R : Type} (k : Nat) (G : KT4 R) (σ : GS) (h : Heap) : KC k 21 c10 σ h (fun x σ h => G x (σ 0) (σ 1) (σ 4) (σ 5) h) = n10 k G (σ 0) (σ 1) (σ 4) (σ 5) h := by kernel_rfl
@[simp] def n9 {R : Type} (k : Nat) (G : KT4 R) (v0 v1 v4 v5 : GV) (h : Heap) : Option R := n10 k (fun x v0 v1 v4 v5 h => kb 1 x fun x => G x v0 v1 v4 v5 h) v0 v1 v4 v5 h
theorem n9_eq {R : Type} (k : Nat) (G : KT4 R) (σ : GS) (h : Heap) : KC k 21 c9 σ h (fun x σ h => G x (σ 0) (σ 1) (σ 4) (σ 5) h) = n9 k G (σ 0) (σ 1) (σ 4) (σ 5) h := (kblock_eq (a := c10) rfl).trans (n10_eq k (fun x v0 v1 v4 v5 h => kb 1 x fun x => G x v0 v1 v4 v5 h) σ h)
@[simp] def n7 {R : Type} (k : Nat) (G : KT4 R) (v0 v1 v4 v5 : GV) (h : Heap) : Option R := n9 k (fun x v0 v1 v4 v5 h => kx x (n8 k G v0 v1 v4 v5 h) (G x v0 v1 v4 v5 h)) v0 v1 v4 v5 h
theorem n7_eq {R : Type} (k : Nat) (G : KT4 R) (σ : GS) (h : Heap) : KC k 21 c7 σ h (fun x σ h => G x (σ 0) (σ 1) (σ 4) (σ 5) h) = n7 k G (σ 0) (σ 1) (σ 4) (σ 5) h := (kseq (b := c8) rfl (fun σ h => n8_eq k G σ h)).trans (n9_eq k (fun x v0 v1 v4 v5 h => kx x (n8 k G v0 v1 v4 v5 h) (G x v0 v1 v4 v5 h)) σ h)
noncomputable def c11 : Code := cL c6
@[simp] def n6 {R : Type} (k : Nat) (G : KT4 R) (v0 v1 v4 v5 : GV) (h : Heap) : Option R := (klen v0).bind fun v8 => (kbin .lss v5 v8).bind fun v9 => kcond v9 (n7 k G v0 v1 v4 v5 h) (G (.ext 0) v0 v1 v4 v5 h)
theorem n6_eq0 {R : Type} (k : Nat) (G : KT4 R) (σ : GS) (h : Heap) : KC k 21 c11 σ h (fun x σ h => kx x (n7 k G (σ 0) (σ 1) (σ 4) (σ 5) h) (G x (σ 0) (σ 1) (σ 4) (σ 5) h)) = n6 k G (σ 0) (σ 1) (σ 4) (σ 5) h := by kernel_rfl
theorem n6_eq {R : Type} (k : Nat) (G : KT4 R) (σ : GS) (h : Heap) : KC k 21 c6 σ h (fun x σ h => G x (σ 0) (σ 1) (σ 4) (σ 5) h) = n6 k G (σ 0) (σ 1) (σ 4) (σ 5) h := (kseq (b := c7) rfl (fun σ h => n7_eq k G σ h)).trans (n6_eq0 k G σ h)
def l5 {R : Type} (k : Nat) (G : KT2 R) : Nat → GV → GV → GV → GV → Heap → Option R
  | 0, _, _, _, _, _ => none
  | r + 1, v0, v1, v4, v5, h => n6 k (fun x v0 v1 v4 v5 h => kx x (l5 k G r v0 v1 v4 v5 h) (G x v1 v4 h)) v0 v1 v4 v5 h
theorem l5_eq {R : Type} (k : Nat) (G : KT2 R) : ∀ (r : Nat) (σ : GS) (h : Heap), kloop (fun σ h K => KC k 21 c6 σ h K) r σ h (fun x σ h => G x (σ 1) (σ 4) h) = l5 k G r (σ 0) (σ 1) (σ 4) (σ 5) h
  | 0, _, _ => rfl
  | r + 1, σ, h => (kloop_eq (fun σ h => l5_eq k G r σ h)).trans (n6_eq k (fun x v0 v1 v4 v5 h => kx x (l5 k G r v0 v1 v4 v5 h) (G x v1 v4 h)) σ h)
@[simp] def n5 {R : Type} (k : Nat) (G : KT2 R) (v0 v1 v4 v5 : GV) (h : Heap) : Option R := l5 k G k v0 v1 v4 v5 h
theorem n5_eq {R : Type} (k : Nat) (G : KT2 R) (σ : GS) (h : Heap) : KC k 21 c5 σ h (fun x σ h => G x (σ 1) (σ 4) h) = n5 k G (σ 0) (σ 1) (σ 4) (σ 5) h := (kloopc_eq (a := c6) rfl).trans (l5_eq k G k σ h)
@[simp] def n4 {R : Type} (k : Nat) (G : KT2 R) (v0 v1 v4 v5 : GV) (h : Heap) : Option R := n5 k (fun x v1 v4 h => kb 0 x fun x => G x v1 v4 h) v0 v1 v4 v5 h
theorem n4_eq {R : Type} (k : Nat) (G : KT2 R) (σ : GS) (h : Heap) : KC k 21 c4 σ h (fun x σ h => G x (σ 1) (σ 4) h) = n4 k G (σ 0) (σ 1) (σ 4) (σ 5) h := (kblock_eq (a := c5) rfl).trans (n5_eq k (fun x v1 v4 h => kb 0 x fun x => G x v1 v4 h) σ h)
noncomputable def c12 : Code := cL c3
@[simp] def n3 {R : Type} (k : Nat) (G : KT2 R) (v0 v1 v4 : GV) (h : Heap) : Option R := n4 k G v0 v1 v4 (.int .i64 0) h
theorem n3_eq0 {R : Type} (k : Nat) (G : KT2 R) (σ : GS) (h : Heap) : KC k 21 c12 σ h (fun x σ h => kx x (n4 k G (σ 0) (σ 1) (σ 4) (σ 5) h) (G x (σ 1) (σ 4) h)) = n3 k G (σ 0) (σ 1) (σ 4) h := by kernel_rfl
theorem n3_eq {R : Type} (k : Nat) (G : KT2 R) (σ : GS) (h : Heap) : KC k 21 c3 σ h (fun x σ h => G x (σ 1) (σ 4) h) = n3 k G (σ 0) (σ 1) (σ 4) h := (kseq (b := c4) rfl (fun σ h => n4_eq k G σ h)).trans (n3_eq0 k G σ h)
@[simp] def n1 {R : Type} (k : Nat) (G : KT1 R) (v0 v1 v4 : GV) (h : Heap) : Option R := n3 k (fun x v1 v4 h => kx x (n2 k G v1 h) (G x v4 h)) v0 v1 v4 h
theorem n1_eq {R : Type} (k : Nat) (G : KT1 R) (σ : GS) (h : Heap) : KC k 21 c1 σ h (fun x σ h => G x (σ 4) h) = n1 k G (σ 0) (σ 1) (σ 4) h := (kseq (b := c2) rfl (fun σ h => n2_eq k G σ h)).trans (n3_eq k (fun x v1 v4 h => kx x (n2 k G v1 h) (G x v4 h)) σ h)
noncomputable def c13 : Code := cL c0
@[simp] def n0 {R : Type} (k : Nat) (G : KT1 R) (v0 v1 : GV) (h : Heap) : Option R := n1 k G v0 v1 (.int .i64 0) h
theorem n0_eq0 {R : Type} (k : Nat) (G : KT1 R) (σ : GS) (h : Heap) : KC k 21 c13 σ h (fun x σ h => kx x (n1 k G (σ 0) (σ 1) (σ 4) h) (G x (σ 4) h)) = n0 k G (σ 0) (σ 1) h := by kernel_rfl
theorem n0_eq {R : Type} (k : Nat) (G : KT1 R) (σ : GS) (h : Heap) : KC k 21 c0 σ h (fun x σ h => G x (σ 4) h) = n0 k G (σ 0) (σ 1) h := (kseq (b := c1) rfl (fun σ h => n1_eq k G σ h)).trans (n0_eq0 k G σ h)
def run {R : Type} (k : Nat) (a0 : GV) (a1 : GV) (h : Heap) (fin : GV → Heap → Option R) : Option R := n0 k (fun x v4 h => kend x (fin v4 h)) a0 a1 h
theorem run_eq {R : Type} (k : Nat) (a0 : GV) (a1 : GV) (h : Heap) (fin : GV → Heap → Option R) : kfun PP cfg NN HH k fn.laws_heldInt64SS [a0, a1] h fin = run k a0 a1 h fin := (kfun_eq (nt := 21) (c := c0) (show PP.funcs[fn.laws_heldInt64SS]? = some Try.f75 by kernel_rfl) (by kernel_rfl) (by kernel_rfl) (fun x σ h => by cases x <;> kernel_rfl)).trans (n0_eq k (fun x v4 h => kend x (fin v4 h)) _ h)
theorem gives {k : Nat} {a0 : GV} {a1 : GV} {v : GV} (e : run k a0 a1 [] finN = some v) : NN fn.laws_heldInt64SS [a0, a1] = some v := nω_of (by kernel_rfl) ((run_eq k a0 a1 [] finN).trans e)
end S.laws_heldInt64SS
/-! laws_szServer -/
namespace S.laws_szServer
noncomputable def c0 : Code := bodyOf Try.f112
@[simp] def n0 {R : Type} (k : Nat) (G : KT1 R) (v0 v1 : GV) (h : Heap) : Option R := kbox v0 h fun v2 h => (kfa 0 v2).bind fun v5 => (kload1 h v5).bind fun v6 => (kN NN fn.laws_szStringS [v6, v1] h).bind fun v8 => (kbin .lss v8 (.int .i64 0)).bind fun v10 => kcond v10 (G .ret (.int .i64 (-1)) h) (G .ret v8 h)
theorem n0_eq {R : Type} (k : Nat) (G : KT1 R) (σ : GS) (h : Heap) : KC k 12 c0 σ h (fun x σ h => G x (σ 4) h) = n0 k G (σ 0) (σ 1) h := by kernel_rfl
def run {R : Type} (k : Nat) (a0 : GV) (a1 : GV) (h : Heap) (fin : GV → Heap → Option R) : Option R := n0 k (fun x v4 h => kend x (fin v4 h)) a0 a1 h
theorem run_eq {R : Type} (k : Nat) (a0 : GV) (a1 : GV) (h : Heap) (fin : GV → Heap → Option R) : kfun PP cfg NN HH k fn.laws_szServer [a0, a1] h fin = run k a0 a1 h fin := (kfun_eq (nt := 12) (c := c0) (show PP.funcs[fn.laws_szServer]? = some Try.f112 by kernel_rfl) (by kernel_rfl) (by kernel_rfl) (fun x σ h => by cases x <;> kernel_rfl)).trans (n0_eq k (fun x v4 h => kend x (fin v4 h)) _ h)
theorem gives {k : Nat} {a0 : GV} {a1 : GV} {v : GV} (e : run k a0 a1 [] finN = some v) : NN fn.laws_szServer [a0, a1] = some v := nω_of (by kernel_rfl) ((run_eq k a0 a1 [] finN).trans e)
end S.laws_szServer
/-! laws_szStringS -/
namespace S.laws_szStringS
noncomputable def c0 : Code := bodyOf Try.f113
noncomputable def c1 : Code := cR c0
noncomputable def c2 : Code := cR c1
noncomputable def c3 : Code := cR c2
noncomputable def c4 : Code := cR c3
@[simp] def n4 {R : Type} (k : Nat) (G : KT1 R) (v1 : GV) (h : Heap) : Option R := G .ret v1 h
theorem n4_eq {R : Type} (k : Nat) (G : KT1 R) (σ : GS) (h : Heap) : KC k 28 c4 σ h (fun x σ h => G x (σ 4) h) = n4 k G (σ 1) h := by kernel_rfl
noncomputable def c5 : Code := cL c3
noncomputable def c6 : Code := cR c5
noncomputable def c7 : Code := cL c6
noncomputable def c8 : Code := cL c7
noncomputable def c9 : Code := cR c8
noncomputable def c10 : Code := cR c9
@[simp] def n10 {R : Type} (k : Nat) (G : KT4 R) (v0 v1 v4 v5 : GV) (h : Heap) : Option R := (kbin .add v5 (.int .i64 1)).bind fun v17 => G .nrm v0 v1 v4 v17 h
theorem n10_eq {R : Type} (k : Nat) (G : KT4 R) (σ : GS) (h : Heap) : KC k 28 c10 σ h (fun x σ h => G x (σ 0) (σ 1) (σ 4) (σ 5) h) = n10 k G (σ 0) (σ 1) (σ 4) (σ 5) h := by kernel_rfl
noncomputable def c11 : Code := cL c9
noncomputable def c12 : Code := cL c11
@[simp] def n12 {R : Type} (k : Nat) (G : KT4 R) (v0 v1 v4 v5 : GV) (h : Heap) : Option R := (kia 1 v0 v5).bind fun v21 => (kload1 h v21).bind fun v22 => (klenS v22).bind fun v23 => (kbin .sub v1 v23).bind fun v24 => (kbin .lss v24 (.int .i64 0)).bind fun v26 => kcond v26 (G .ret v0 v24 (.int .i64 (-1)) v5 h) (G .nrm v0 v24 v4 v5 h)
theorem n12_eq {R : Type} (k : Nat) (G : KT4 R) (σ : GS) (h : Heap) : KC k 28 c12 σ h (fun x σ h => G x (σ 0) (σ 1) (σ 4) (σ 5) h) = n12 k G (σ 0) (σ 1) (σ 4) (σ 5) h := by kernel_rfl
@[simp] def n11 {R : Type} (k : Nat) (G : KT4 R) (v0 v1 v4 v5 : GV) (h : Heap) : Option R := n12 k (fun x v0 v1 v4 v5 h => kb 1 x fun x => G x v0 v1 v4 v5 h) v0 v1 v4 v5 h
theorem n11_eq {R : Type} (k : Nat) (G : KT4 R) (σ : GS) (h : Heap) : KC k 28 c11 σ h (fun x σ h => G x (σ 0) (σ 1) (σ 4) (σ 5) h) = n11 k G (σ 0) (σ 1) (σ 4) (σ 5) h := (kblock_eq (a := c12) rfl).trans (n12_eq k (fun x v0 v1 v4 v5 h => kb 1 x fun x => G x v0 v1 v4 v5 h) σ h)
@[simp] def n9 {R : Type} (k : Nat) (G : KT4 R) (v0 v1 v4 v5 : GV) (h : Heap) : Option R := n11 k (fun x v0 v1 v4 v5 h => kx x (n10 k G v0 v1 v4 v5 h) (G x v0 v1 v4 v5 h)) v0 v1 v4 v5 h
theorem n9_eq {R : Type} (k : Nat) (G : KT4 R) (σ : GS) (h : Heap) : KC k 28 c9 σ h (fun x σ h => G x (σ 0) (σ 1) (σ 4) (σ 5) h) = n9 k G (σ 0) (σ 1) (σ 4) (σ 5) h := (kseq (b := c10) rfl (fun σ h => n10_eq k G σ h)).trans (n11_eq k (fun x v0 v1 v4 v5 h => kx x (n10 k G v0 v1 v4 v5 h) (G x v0 v1 v4 v5 h)) σ h)
noncomputable def c13 : Code := cL c8
@[simp] def n8 {R : Type} (k : Nat) (G : KT4 R) (v0 v1 v4 v5 : GV) (h : Heap) : Option R := (klen v0).bind fun v14 => (kbin .lss v5 v14).bind fun v15 => kcond v15 (n9 k G v0 v1 v4 v5 h) (G (.ext 0) v0 v1 v4 v5 h)
theorem n8_eq0 {R : Type} (k : Nat) (G : KT4 R) (σ : GS) (h : Heap) : KC k 28 c13 σ h (fun x σ h => kx x (n9 k G (σ 0) (σ 1) (σ 4) (σ 5) h) (G x (σ 0) (σ 1) (σ 4) (σ 5) h)) = n8 k G (σ 0) (σ 1) (σ 4) (σ 5) h := by kernel_rfl
theorem n8_eq {R : Type} (k : Nat) (G : KT4 R) (σ : GS) (h : Heap) : KC k 28 c8 σ h (fun x σ h => G x (σ 0) (σ 1) (σ 4) (σ 5) h) = n8 k G (σ 0) (σ 1) (σ 4) (σ 5) h := (kseq (b := c9) rfl (fun σ h => n9_eq k G σ h)).trans (n8_eq0 k G σ h)
def l7 {R : Type} (k : Nat) (G : KT2 R) : Nat → GV → GV → GV → GV → Heap → Option R
  | 0, _, _, _, _, _ => none
  | r + 1, v0, v1, v4, v5, h => n8 k (fun x v0 v1 v4 v5 h => kx x (l7 k G r v0 v1 v4 v5 h) (G x v1 v4 h)) v0 v1 v4 v5 h
theorem l7_eq {R : Type} (k : Nat) (G : KT2 R) : ∀ (r : Nat) (σ : GS) (h : Heap), kloop (fun σ h K => KC k 28 c8 σ h K) r σ h (fun x σ h => G x (σ 1) (σ 4) h) = l7 k G r (σ 0) (σ 1) (σ 4) (σ 5) h
  | 0, _, _ => rfl
  | r + 1, σ, h => (kloop_eq (fun σ h => l7_eq k G r σ h)).trans (n8_eq k (fun x v0 v1 v4 v5 h => kx x (l7 k G r v0 v1 v4 v5 h) (G x v1 v4 h)) σ h)
@[simp] def n7 {R : Type} (k : Nat) (G : KT2 R) (v0 v1 v4 v5 : GV) (h : Heap) : Option R := l7 k G k v0 v1 v4 v5 h
theorem n7_eq {R : Type} (k : Nat) (G : KT2 R) (σ : GS) (h : Heap) : KC k 28 c7 σ h (fun x σ h => G x (σ 1) (σ 4) h) = n7 k G (σ 0) (σ 1) (σ 4) (σ 5) h := (kloopc_eq (a := c8) rfl).trans (l7_eq k G k σ h)
@[simp] def n6 {R : Type} (k : Nat) (G : KT2 R) (v0 v1 v4 v5 : GV) (h : Heap) : Option R := n7 k (fun x v1 v4 h => kb 0 x fun x => G x v1 v4 h) v0 v1 v4 v5 h
theorem n6_eq {R : Type} (k : Nat) (G : KT2 R) (σ : GS) (h : Heap) : KC k 28 c6 σ h (fun x σ h => G x (σ 1) (σ 4) h) = n6 k G (σ 0) (σ 1) (σ 4) (σ 5) h := (kblock_eq (a := c7) rfl).trans (n7_eq k (fun x v1 v4 h => kb 0 x fun x => G x v1 v4 h) σ h)
noncomputable def c14 : Code := cL c5
@[simp] def n5 {R : Type} (k : Nat) (G : KT2 R) (v0 v1 v4 : GV) (h : Heap) : Option R := n6 k G v0 v1 v4 (.int .i64 0) h
theorem n5_eq0 {R : Type} (k : Nat) (G : KT2 R) (σ : GS) (h : Heap) : KC k 28 c14 σ h (fun x σ h => kx x (n6 k G (σ 0) (σ 1) (σ 4) (σ 5) h) (G x (σ 1) (σ 4) h)) = n5 k G (σ 0) (σ 1) (σ 4) h := by kernel_rfl
theorem n5_eq {R : Type} (k : Nat) (G : KT2 R) (σ : GS) (h : Heap) : KC k 28 c5 σ h (fun x σ h => G x (σ 1) (σ 4) h) = n5 k G (σ 0) (σ 1) (σ 4) h := (kseq (b := c6) rfl (fun σ h => n6_eq k G σ h)).trans (n5_eq0 k G σ h)
@[simp] def n3 {R : Type} (k : Nat) (G : KT1 R) (v0 v1 v4 : GV) (h : Heap) : Option R := n5 k (fun x v1 v4 h => kx x (n4 k G v1 h) (G x v4 h)) v0 v1 v4 h
theorem n3_eq {R : Type} (k : Nat) (G : KT1 R) (σ : GS) (h : Heap) : KC k 28 c3 σ h (fun x σ h => G x (σ 4) h) = n3 k G (σ 0) (σ 1) (σ 4) h := (kseq (b := c4) rfl (fun σ h => n4_eq k G σ h)).trans (n5_eq k (fun x v1 v4 h => kx x (n4 k G v1 h) (G x v4 h)) σ h)
noncomputable def c15 : Code := cL c2
@[simp] def n2 {R : Type} (k : Nat) (G : KT1 R) (v0 v1 v4 : GV) (h : Heap) : Option R := (kbin .lss v1 (.int .i64 0)).bind fun v11 => kcond v11 (G .ret (.int .i64 (-1)) h) (n3 k G v0 v1 v4 h)
theorem n2_eq0 {R : Type} (k : Nat) (G : KT1 R) (σ : GS) (h : Heap) : KC k 28 c15 σ h (fun x σ h => kx x (n3 k G (σ 0) (σ 1) (σ 4) h) (G x (σ 4) h)) = n2 k G (σ 0) (σ 1) (σ 4) h := by kernel_rfl
theorem n2_eq {R : Type} (k : Nat) (G : KT1 R) (σ : GS) (h : Heap) : KC k 28 c2 σ h (fun x σ h => G x (σ 4) h) = n2 k G (σ 0) (σ 1) (σ 4) h := (kseq (b := c3) rfl (fun σ h => n3_eq k G σ h)).trans (n2_eq0 k G σ h)
noncomputable def c16 : Code := cL c1
@[simp] def n1 {R : Type} (k : Nat) (G : KT1 R) (v0 v1 v4 : GV) (h : Heap) : Option R := (klen v0).bind fun v8 => (kbin .sub v1 v8).bind fun v9 => n2 k G v0 v9 v4 h
theorem n1_eq0 {R : Type} (k : Nat) (G : KT1 R) (σ : GS) (h : Heap) : KC k 28 c16 σ h (fun x σ h => kx x (n2 k G (σ 0) (σ 1) (σ 4) h) (G x (σ 4) h)) = n1 k G (σ 0) (σ 1) (σ 4) h := by kernel_rfl
theorem n1_eq {R : Type} (k : Nat) (G : KT1 R) (σ : GS) (h : Heap) : KC k 28 c1 σ h (fun x σ h => G x (σ 4) h) = n1 k G (σ 0) (σ 1) (σ 4) h := (kseq (b := c2) rfl (fun σ h => n2_eq k G σ h)).trans (n1_eq0 k G σ h)
noncomputable def c17 : Code := cL c0
@[simp] def n0 {R : Type} (k : Nat) (G : KT1 R) (v0 v1 : GV) (h : Heap) : Option R := n1 k G v0 v1 (.int .i64 0) h
theorem n0_eq0 {R : Type} (k : Nat) (G : KT1 R) (σ : GS) (h : Heap) : KC k 28 c17 σ h (fun x σ h => kx x (n1 k G (σ 0) (σ 1) (σ 4) h) (G x (σ 4) h)) = n0 k G (σ 0) (σ 1) h := by kernel_rfl
theorem n0_eq {R : Type} (k : Nat) (G : KT1 R) (σ : GS) (h : Heap) : KC k 28 c0 σ h (fun x σ h => G x (σ 4) h) = n0 k G (σ 0) (σ 1) h := (kseq (b := c1) rfl (fun σ h => n1_eq k G σ h)).trans (n0_eq0 k G σ h)
def run {R : Type} (k : Nat) (a0 : GV) (a1 : GV) (h : Heap) (fin : GV → Heap → Option R) : Option R := n0 k (fun x v4 h => kend x (fin v4 h)) a0 a1 h
theorem run_eq {R : Type} (k : Nat) (a0 : GV) (a1 : GV) (h : Heap) (fin : GV → Heap → Option R) : kfun PP cfg NN HH k fn.laws_szStringS [a0, a1] h fin = run k a0 a1 h fin := (kfun_eq (nt := 28) (c := c0) (show PP.funcs[fn.laws_szStringS]? = some Try.f113 by kernel_rfl) (by kernel_rfl) (by kernel_rfl) (fun x σ h => by cases x <;> kernel_rfl)).trans (n0_eq k (fun x v4 h => kend x (fin v4 h)) _ h)
theorem gives {k : Nat} {a0 : GV} {a1 : GV} {v : GV} (e : run k a0 a1 [] finN = some v) : NN fn.laws_szStringS [a0, a1] = some v := nω_of (by kernel_rfl) ((run_eq k a0 a1 [] finN).trans e)
end S.laws_szStringS
/-! laws_szInt64S -/
namespace S.laws_szInt64S
noncomputable def c0 : Code := bodyOf Try.f114
@[simp] def n0 {R : Type} (k : Nat) (G : KT1 R) (v0 v1 : GV) (h : Heap) : Option R := (klen v0).bind fun v7 => (kbin .sub v1 v7).bind fun v8 => (kbin .lss v8 (.int .i64 0)).bind fun v10 => kcond v10 (G .ret (.int .i64 (-1)) h) (G .ret v8 h)
theorem n0_eq {R : Type} (k : Nat) (G : KT1 R) (σ : GS) (h : Heap) : KC k 12 c0 σ h (fun x σ h => G x (σ 4) h) = n0 k G (σ 0) (σ 1) h := by kernel_rfl
def run {R : Type} (k : Nat) (a0 : GV) (a1 : GV) (h : Heap) (fin : GV → Heap → Option R) : Option R := n0 k (fun x v4 h => kend x (fin v4 h)) a0 a1 h
theorem run_eq {R : Type} (k : Nat) (a0 : GV) (a1 : GV) (h : Heap) (fin : GV → Heap → Option R) : kfun PP cfg NN HH k fn.laws_szInt64S [a0, a1] h fin = run k a0 a1 h fin := (kfun_eq (nt := 12) (c := c0) (show PP.funcs[fn.laws_szInt64S]? = some Try.f114 by kernel_rfl) (by kernel_rfl) (by kernel_rfl) (fun x σ h => by cases x <;> kernel_rfl)).trans (n0_eq k (fun x v4 h => kend x (fin v4 h)) _ h)
theorem gives {k : Nat} {a0 : GV} {a1 : GV} {v : GV} (e : run k a0 a1 [] finN = some v) : NN fn.laws_szInt64S [a0, a1] = some v := nω_of (by kernel_rfl) ((run_eq k a0 a1 [] finN).trans e)
end S.laws_szInt64S
/-! laws_toServer -/
namespace S.laws_toServer
noncomputable def c0 : Code := bodyOf Try.f115
@[simp] def n0 {R : Type} (k : Nat) (G : KT1 R) (v0 : GV) (h : Heap) : Option R := kbox v0 h fun v1 h => kalloc [.nils, (.int .i64 0)] h fun v2 h => kalloc [.nils, (.int .i64 0)] h fun v3 h => (kfa 0 v1).bind fun v4 => (kload1 h v4).bind fun v5 => (kF false HH fn.laws_toStringS [v5] h).bind fun r => kr r fun v6 h => (kfa 0 v3).bind fun v7 => (kstore 1 h v7 v6).bind fun h => (kfa 1 v1).bind fun v8 => (kload1 h v8).bind fun v9 => (kfa 1 v3).bind fun v10 => (kstore 1 h v10 v9).bind fun h => (kloadA 2 h v3).bind fun v11 => (kstore 2 h v2 v11).bind fun h => G .ret v2 h
theorem n0_eq {R : Type} (k : Nat) (G : KT1 R) (σ : GS) (h : Heap) : KC k 12 c0 σ h (fun x σ h => G x (σ 2) h) = n0 k G (σ 0) h := by kernel_rfl
def run {R : Type} (k : Nat) (a0 : GV) (h : Heap) (fin : GV → Heap → Option R) : Option R := n0 k (fun x v2 h => kend x ((kloadA 2 h v2).bind fun w2 => fin w2 h)) a0 h
theorem run_eq {R : Type} (k : Nat) (a0 : GV) (h : Heap) (fin : GV → Heap → Option R) : kfun PP cfg NN HH k fn.laws_toServer [a0] h fin = run k a0 h fin := (kfun_eq (nt := 12) (c := c0) (show PP.funcs[fn.laws_toServer]? = some Try.f115 by kernel_rfl) (by kernel_rfl) (by kernel_rfl) (fun x σ h => by cases x <;> kernel_rfl)).trans (n0_eq k (fun x v2 h => kend x ((kloadA 2 h v2).bind fun w2 => fin w2 h)) _ h)
theorem gives {k : Nat} {a0 : GV} {b : Nat} {q : GV × List (List GV)} (e : run k a0 [] (finO b) = some q) : OO fn.laws_toServer [a0] b = some q := oω_of ((run_eq k a0 [] (finO b)).trans e)
end S.laws_toServer
/-! laws_toStringS -/
namespace S.laws_toStringS
noncomputable def c0 : Code := bodyOf Try.f116
noncomputable def c1 : Code := cR c0
noncomputable def c2 : Code := cR c1
noncomputable def c3 : Code := cR c2
@[simp] def n3 {R : Type} (k : Nat) (G : KT1 R) (v3 : GV) (h : Heap) : Option R := G .ret v3 h
theorem n3_eq {R : Type} (k : Nat) (G : KT1 R) (σ : GS) (h : Heap) : KC k 22 c3 σ h (fun x σ h => G x (σ 2) h) = n3 k G (σ 3) h := by kernel_rfl
noncomputable def c4 : Code := cL c2
noncomputable def c5 : Code := cR c4
noncomputable def c6 : Code := cL c5
noncomputable def c7 : Code := cL c6
noncomputable def c8 : Code := cR c7
noncomputable def c9 : Code := cR c8
@[simp] def n9 {R : Type} (k : Nat) (G : KT4 R) (v0 v2 v3 v4 : GV) (h : Heap) : Option R := (kbin .add v4 (.int .i64 1)).bind fun v13 => G .nrm v0 v2 v3 v13 h
theorem n9_eq {R : Type} (k : Nat) (G : KT4 R) (σ : GS) (h : Heap) : KC k 22 c9 σ h (fun x σ h => G x (σ 0) (σ 2) (σ 3) (σ 4) h) = n9 k G (σ 0) (σ 2) (σ 3) (σ 4) h := by kernel_rfl
noncomputable def c10 : Code := cL c8
noncomputable def c11 : Code := cL c10
@[simp] def n11 {R : Type} (k : Nat) (G : KT4 R) (v0 v2 v3 v4 : GV) (h : Heap) : Option R := (kia 1 v0 v4).bind fun v18 => (kload1 h v18).bind fun v19 => (kia 1 v3 v4).bind fun v20 => (kstore 1 h v20 v19).bind fun h => G .nrm v0 v2 v3 v4 h
theorem n11_eq {R : Type} (k : Nat) (G : KT4 R) (σ : GS) (h : Heap) : KC k 22 c11 σ h (fun x σ h => G x (σ 0) (σ 2) (σ 3) (σ 4) h) = n11 k G (σ 0) (σ 2) (σ 3) (σ 4) h := by kernel_rfl
@[simp] def n10 {R : Type} (k : Nat) (G : KT4 R) (v0 v2 v3 v4 : GV) (h : Heap) : Option R := n11 k (fun x v0 v2 v3 v4 h => kb 1 x fun x => G x v0 v2 v3 v4 h) v0 v2 v3 v4 h
theorem n10_eq {R : Type} (k : Nat) (G : KT4 R) (σ : GS) (h : Heap) : KC k 22 c10 σ h (fun x σ h => G x (σ 0) (σ 2) (σ 3) (σ 4) h) = n10 k G (σ 0) (σ 2) (σ 3) (σ 4) h := (kblock_eq (a := c11) rfl).trans (n11_eq k (fun x v0 v2 v3 v4 h => kb 1 x fun x => G x v0 v2 v3 v4 h) σ h)
@[simp] def n8 {R : Type} (k : Nat) (G : KT4 R) (v0 v2 v3 v4 : GV) (h : Heap) : Option R := n10 k (fun x v0 v2 v3 v4 h => kx x (n9 k G v0 v2 v3 v4 h) (G x v0 v2 v3 v4 h)) v0 v2 v3 v4 h
theorem n8_eq {R : Type} (k : Nat) (G : KT4 R) (σ : GS) (h : Heap) : KC k 22 c8 σ h (fun x σ h => G x (σ 0) (σ 2) (σ 3) (σ 4) h) = n8 k G (σ 0) (σ 2) (σ 3) (σ 4) h := (kseq (b := c9) rfl (fun σ h => n9_eq k G σ h)).trans (n10_eq k (fun x v0 v2 v3 v4 h => kx x (n9 k G v0 v2 v3 v4 h) (G x v0 v2 v3 v4 h)) σ h)
noncomputable def c12 : Code := cL c7
@[simp] def n7 {R : Type} (k : Nat) (G : KT4 R) (v0 v2 v3 v4 : GV) (h : Heap) : Option R := (klen v0).bind fun v10 => (kbin .lss v4 v10).bind fun v11 => kcond v11 (n8 k G v0 v2 v3 v4 h) (G (.ext 0) v0 v2 v3 v4 h)
theorem n7_eq0 {R : Type} (k : Nat) (G : KT4 R) (σ : GS) (h : Heap) : KC k 22 c12 σ h (fun x σ h => kx x (n8 k G (σ 0) (σ 2) (σ 3) (σ 4) h) (G x (σ 0) (σ 2) (σ 3) (σ 4) h)) = n7 k G (σ 0) (σ 2) (σ 3) (σ 4) h := by kernel_rfl
theorem n7_eq {R : Type} (k : Nat) (G : KT4 R) (σ : GS) (h : Heap) : KC k 22 c7 σ h (fun x σ h => G x (σ 0) (σ 2) (σ 3) (σ 4) h) = n7 k G (σ 0) (σ 2) (σ 3) (σ 4) h := (kseq (b := c8) rfl (fun σ h => n8_eq k G σ h)).trans (n7_eq0 k G σ h)
def l6 {R : Type} (k : Nat) (G : KT2 R) : Nat → GV → GV → GV → GV → Heap → Option R
  | 0, _, _, _, _, _ => none
  | r + 1, v0, v2, v3, v4, h => n7 k (fun x v0 v2 v3 v4 h => kx x (l6 k G r v0 v2 v3 v4 h) (G x v2 v3 h)) v0 v2 v3 v4 h
theorem l6_eq {R : Type} (k : Nat) (G : KT2 R) : ∀ (r : Nat) (σ : GS) (h : Heap), kloop (fun σ h K => KC k 22 c7 σ h K) r σ h (fun x σ h => G x (σ 2) (σ 3) h) = l6 k G r (σ 0) (σ 2) (σ 3) (σ 4) h
  | 0, _, _ => rfl
  | r + 1, σ, h => (kloop_eq (fun σ h => l6_eq k G r σ h)).trans (n7_eq k (fun x v0 v2 v3 v4 h => kx x (l6 k G r v0 v2 v3 v4 h) (G x v2 v3 h)) σ h)
@[simp] def n6 {R : Type} (k : Nat) (G : KT2 R) (v0 v2 v3 v4 : GV) (h : Heap) : Option R := l6 k G k v0 v2 v3 v4 h
theorem n6_eq {R : Type} (k : Nat) (G : KT2 R) (σ : GS) (h : Heap) : KC k 22 c6 σ h (fun x σ h => G x (σ 2) (σ 3) h) = n6 k G (σ 0) (σ 2) (σ 3) (σ 4) h := (kloopc_eq (a := c7) rfl).trans (l6_eq k G k σ h)
@[simp] def n5 {R : Type} (k : Nat) (G : KT2 R) (v0 v2 v3 v4 : GV) (h : Heap) : Option R := n6 k (fun x v2 v3 h => kb 0 x fun x => G x v2 v3 h) v0 v2 v3 v4 h
theorem n5_eq {R : Type} (k : Nat) (G : KT2 R) (σ : GS) (h : Heap) : KC k 22 c5 σ h (fun x σ h => G x (σ 2) (σ 3) h) = n5 k G (σ 0) (σ 2) (σ 3) (σ 4) h := (kblock_eq (a := c6) rfl).trans (n6_eq k (fun x v2 v3 h => kb 0 x fun x => G x v2 v3 h) σ h)
noncomputable def c13 : Code := cL c4
@[simp] def n4 {R : Type} (k : Nat) (G : KT2 R) (v0 v2 v3 : GV) (h : Heap) : Option R := n5 k G v0 v2 v3 (.int .i64 0) h
theorem n4_eq0 {R : Type} (k : Nat) (G : KT2 R) (σ : GS) (h : Heap) : KC k 22 c13 σ h (fun x σ h => kx x (n5 k G (σ 0) (σ 2) (σ 3) (σ 4) h) (G x (σ 2) (σ 3) h)) = n4 k G (σ 0) (σ 2) (σ 3) h := by kernel_rfl
theorem n4_eq {R : Type} (k : Nat) (G : KT2 R) (σ : GS) (h : Heap) : KC k 22 c4 σ h (fun x σ h => G x (σ 2) (σ 3) h) = n4 k G (σ 0) (σ 2) (σ 3) h := (kseq (b := c5) rfl (fun σ h => n5_eq k G σ h)).trans (n4_eq0 k G σ h)
@[simp] def n2 {R : Type} (k : Nat) (G : KT1 R) (v0 v2 v3 : GV) (h : Heap) : Option R := n4 k (fun x v2 v3 h => kx x (n3 k G v3 h) (G x v2 h)) v0 v2 v3 h
theorem n2_eq {R : Type} (k : Nat) (G : KT1 R) (σ : GS) (h : Heap) : KC k 22 c2 σ h (fun x σ h => G x (σ 2) h) = n2 k G (σ 0) (σ 2) (σ 3) h := (kseq (b := c3) rfl (fun σ h => n3_eq k G σ h)).trans (n4_eq k (fun x v2 v3 h => kx x (n3 k G v3 h) (G x v2 h)) σ h)
noncomputable def c14 : Code := cL c1
@[simp] def n1 {R : Type} (k : Nat) (G : KT1 R) (v0 v2 : GV) (h : Heap) : Option R := (klen v0).bind fun v6 => (kmake [(.str { data := #[] })] 1 16 v6 v6 h).bind fun r => kr r fun v7 h => n2 k G v0 v2 v7 h
theorem n1_eq0 {R : Type} (k : Nat) (G : KT1 R) (σ : GS) (h : Heap) : KC k 22 c14 σ h (fun x σ h => kx x (n2 k G (σ 0) (σ 2) (σ 3) h) (G x (σ 2) h)) = n1 k G (σ 0) (σ 2) h := by kernel_rfl
theorem n1_eq {R : Type} (k : Nat) (G : KT1 R) (σ : GS) (h : Heap) : KC k 22 c1 σ h (fun x σ h => G x (σ 2) h) = n1 k G (σ 0) (σ 2) h := (kseq (b := c2) rfl (fun σ h => n2_eq k G σ h)).trans (n1_eq0 k G σ h)
noncomputable def c15 : Code := cL c0
@[simp] def n0 {R : Type} (k : Nat) (G : KT1 R) (v0 : GV) (h : Heap) : Option R := n1 k G v0 .nils h
theorem n0_eq0 {R : Type} (k : Nat) (G : KT1 R) (σ : GS) (h : Heap) : KC k 22 c15 σ h (fun x σ h => kx x (n1 k G (σ 0) (σ 2) h) (G x (σ 2) h)) = n0 k G (σ 0) h := by kernel_rfl
theorem n0_eq {R : Type} (k : Nat) (G : KT1 R) (σ : GS) (h : Heap) : KC k 22 c0 σ h (fun x σ h => G x (σ 2) h) = n0 k G (σ 0) h := (kseq (b := c1) rfl (fun σ h => n1_eq k G σ h)).trans (n0_eq0 k G σ h)
def run {R : Type} (k : Nat) (a0 : GV) (h : Heap) (fin : GV → Heap → Option R) : Option R := n0 k (fun x v2 h => kend x (fin v2 h)) a0 h
theorem run_eq {R : Type} (k : Nat) (a0 : GV) (h : Heap) (fin : GV → Heap → Option R) : kfun PP cfg NN HH k fn.laws_toStringS [a0] h fin = run k a0 h fin := (kfun_eq (nt := 22) (c := c0) (show PP.funcs[fn.laws_toStringS]? = some Try.f116 by kernel_rfl) (by kernel_rfl) (by kernel_rfl) (fun x σ h => by cases x <;> kernel_rfl)).trans (n0_eq k (fun x v2 h => kend x (fin v2 h)) _ h)
theorem gives {k : Nat} {a0 : GV} {b : Nat} {q : GV × List (List GV)} (e : run k a0 [] (finO b) = some q) : OO fn.laws_toStringS [a0] b = some q := oω_of ((run_eq k a0 [] (finO b)).trans e)
end S.laws_toStringS
/-! laws_toInt64S -/
namespace S.laws_toInt64S
noncomputable def c0 : Code := bodyOf Try.f117
noncomputable def c1 : Code := cR c0
noncomputable def c2 : Code := cR c1
noncomputable def c3 : Code := cR c2
@[simp] def n3 {R : Type} (k : Nat) (G : KT1 R) (v3 : GV) (h : Heap) : Option R := G .ret v3 h
theorem n3_eq {R : Type} (k : Nat) (G : KT1 R) (σ : GS) (h : Heap) : KC k 22 c3 σ h (fun x σ h => G x (σ 2) h) = n3 k G (σ 3) h := by kernel_rfl
noncomputable def c4 : Code := cL c2
noncomputable def c5 : Code := cR c4
noncomputable def c6 : Code := cL c5
noncomputable def c7 : Code := cL c6
noncomputable def c8 : Code := cR c7
noncomputable def c9 : Code := cR c8
@[simp] def n9 {R : Type} (k : Nat) (G : KT4 R) (v0 v2 v3 v4 : GV) (h : Heap) : Option R := (kbin .add v4 (.int .i64 1)).bind fun v13 => G .nrm v0 v2 v3 v13 h
theorem n9_eq {R : Type} (k : Nat) (G : KT4 R) (σ : GS) (h : Heap) : KC k 22 c9 σ h (fun x σ h => G x (σ 0) (σ 2) (σ 3) (σ 4) h) = n9 k G (σ 0) (σ 2) (σ 3) (σ 4) h := by kernel_rfl
noncomputable def c10 : Code := cL c8
noncomputable def c11 : Code := cL c10
@[simp] def n11 {R : Type} (k : Nat) (G : KT4 R) (v0 v2 v3 v4 : GV) (h : Heap) : Option R := (kia 1 v0 v4).bind fun v18 => (kload1 h v18).bind fun v19 => (kia 1 v3 v4).bind fun v20 => (kstore 1 h v20 v19).bind fun h => G .nrm v0 v2 v3 v4 h
theorem n11_eq {R : Type} (k : Nat) (G : KT4 R) (σ : GS) (h : Heap) : KC k 22 c11 σ h (fun x σ h => G x (σ 0) (σ 2) (σ 3) (σ 4) h) = n11 k G (σ 0) (σ 2) (σ 3) (σ 4) h := by kernel_rfl
@[simp] def n10 {R : Type} (k : Nat) (G : KT4 R) (v0 v2 v3 v4 : GV) (h : Heap) : Option R := n11 k (fun x v0 v2 v3 v4 h => kb 1 x fun x => G x v0 v2 v3 v4 h) v0 v2 v3 v4 h
theorem n10_eq {R : Type} (k : Nat) (G : KT4 R) (σ : GS) (h : Heap) : KC k 22 c10 σ h (fun x σ h => G x (σ 0) (σ 2) (σ 3) (σ 4) h) = n10 k G (σ 0) (σ 2) (σ 3) (σ 4) h := (kblock_eq (a := c11) rfl).trans (n11_eq k (fun x v0 v2 v3 v4 h => kb 1 x fun x => G x v0 v2 v3 v4 h) σ h)
@[simp] def n8 {R : Type} (k : Nat) (G : KT4 R) (v0 v2 v3 v4 : GV) (h : Heap) : Option R := n10 k (fun x v0 v2 v3 v4 h => kx x (n9 k G v0 v2 v3 v4 h) (G x v0 v2 v3 v4 h)) v0 v2 v3 v4 h
theorem n8_eq {R : Type} (k : Nat) (G : KT4 R) (σ : GS) (h : Heap) : KC k 22 c8 σ h (fun x σ h => G x (σ 0) (σ 2) (σ 3) (σ 4) h) = n8 k G (σ 0) (σ 2) (σ 3) (σ 4) h := (kseq (b := c9) rfl (fun σ h => n9_eq k G σ h)).trans (n10_eq k (fun x v0 v2 v3 v4 h => kx x (n9 k G v0 v2 v3 v4 h) (G x v0 v2 v3 v4 h)) σ h)
noncomputable def c12 : Code := cL c7
@[simp] def n7 {R : Type} (k : Nat) (G : KT4 R) (v0 v2 v3 v4 : GV) (h : Heap) : Option R := (klen v0).bind fun v10 => (kbin .lss v4 v10).bind fun v11 => kcond v11 (n8 k G v0 v2 v3 v4 h) (G (.ext 0) v0 v2 v3 v4 h)
theorem n7_eq0 {R : Type} (k : Nat) (G : KT4 R) (σ : GS) (h : Heap) : KC k 22 c12 σ h (fun x σ h => kx x (n8 k G (σ 0) (σ 2) (σ 3) (σ 4) h) (G x (σ 0) (σ 2) (σ 3) (σ 4) h)) = n7 k G (σ 0) (σ 2) (σ 3) (σ 4) h := by kernel_rfl
theorem n7_eq {R : Type} (k : Nat) (G : KT4 R) (σ : GS) (h : Heap) : KC k 22 c7 σ h (fun x σ h => G x (σ 0) (σ 2) (σ 3) (σ 4) h) = n7 k G (σ 0) (σ 2) (σ 3) (σ 4) h := (kseq (b := c8) rfl (fun σ h => n8_eq k G σ h)).trans (n7_eq0 k G σ h)
def l6 {R : Type} (k : Nat) (G : KT2 R) : Nat → GV → GV → GV → GV → Heap → Option R
  | 0, _, _, _, _, _ => none
  | r + 1, v0, v2, v3, v4, h => n7 k (fun x v0 v2 v3 v4 h => kx x (l6 k G r v0 v2 v3 v4 h) (G x v2 v3 h)) v0 v2 v3 v4 h
theorem l6_eq {R : Type} (k : Nat) (G : KT2 R) : ∀ (r : Nat) (σ : GS) (h : Heap), kloop (fun σ h K => KC k 22 c7 σ h K) r σ h (fun x σ h => G x (σ 2) (σ 3) h) = l6 k G r (σ 0) (σ 2) (σ 3) (σ 4) h
  | 0, _, _ => rfl
  | r + 1, σ, h => (kloop_eq (fun σ h => l6_eq k G r σ h)).trans (n7_eq k (fun x v0 v2 v3 v4 h => kx x (l6 k G r v0 v2 v3 v4 h) (G x v2 v3 h)) σ h)
@[simp] def n6 {R : Type} (k : Nat) (G : KT2 R) (v0 v2 v3 v4 : GV) (h : Heap) : Option R := l6 k G k v0 v2 v3 v4 h
theorem n6_eq {R : Type} (k : Nat) (G : KT2 R) (σ : GS) (h : Heap) : KC k 22 c6 σ h (fun x σ h => G x (σ 2) (σ 3) h) = n6 k G (σ 0) (σ 2) (σ 3) (σ 4) h := (kloopc_eq (a := c7) rfl).trans (l6_eq k G k σ h)
@[simp] def n5 {R : Type} (k : Nat) (G : KT2 R) (v0 v2 v3 v4 : GV) (h : Heap) : Option R := n6 k (fun x v2 v3 h => kb 0 x fun x => G x v2 v3 h) v0 v2 v3 v4 h
theorem n5_eq {R : Type} (k : Nat) (G : KT2 R) (σ : GS) (h : Heap) : KC k 22 c5 σ h (fun x σ h => G x (σ 2) (σ 3) h) = n5 k G (σ 0) (σ 2) (σ 3) (σ 4) h := (kblock_eq (a := c6) rfl).trans (n6_eq k (fun x v2 v3 h => kb 0 x fun x => G x v2 v3 h) σ h)
noncomputable def c13 : Code := cL c4
@[simp] def n4 {R : Type} (k : Nat) (G : KT2 R) (v0 v2 v3 : GV) (h : Heap) : Option R := n5 k G v0 v2 v3 (.int .i64 0) h
theorem n4_eq0 {R : Type} (k : Nat) (G : KT2 R) (σ : GS) (h : Heap) : KC k 22 c13 σ h (fun x σ h => kx x (n5 k G (σ 0) (σ 2) (σ 3) (σ 4) h) (G x (σ 2) (σ 3) h)) = n4 k G (σ 0) (σ 2) (σ 3) h := by kernel_rfl
theorem n4_eq {R : Type} (k : Nat) (G : KT2 R) (σ : GS) (h : Heap) : KC k 22 c4 σ h (fun x σ h => G x (σ 2) (σ 3) h) = n4 k G (σ 0) (σ 2) (σ 3) h := (kseq (b := c5) rfl (fun σ h => n5_eq k G σ h)).trans (n4_eq0 k G σ h)
@[simp] def n2 {R : Type} (k : Nat) (G : KT1 R) (v0 v2 v3 : GV) (h : Heap) : Option R := n4 k (fun x v2 v3 h => kx x (n3 k G v3 h) (G x v2 h)) v0 v2 v3 h
theorem n2_eq {R : Type} (k : Nat) (G : KT1 R) (σ : GS) (h : Heap) : KC k 22 c2 σ h (fun x σ h => G x (σ 2) h) = n2 k G (σ 0) (σ 2) (σ 3) h := (kseq (b := c3) rfl (fun σ h => n3_eq k G σ h)).trans (n4_eq k (fun x v2 v3 h => kx x (n3 k G v3 h) (G x v2 h)) σ h)
noncomputable def c14 : Code := cL c1
@[simp] def n1 {R : Type} (k : Nat) (G : KT1 R) (v0 v2 : GV) (h : Heap) : Option R := (klen v0).bind fun v6 => (kmake [(.int .i64 0)] 1 8 v6 v6 h).bind fun r => kr r fun v7 h => n2 k G v0 v2 v7 h
theorem n1_eq0 {R : Type} (k : Nat) (G : KT1 R) (σ : GS) (h : Heap) : KC k 22 c14 σ h (fun x σ h => kx x (n2 k G (σ 0) (σ 2) (σ 3) h) (G x (σ 2) h)) = n1 k G (σ 0) (σ 2) h := by kernel_rfl
theorem n1_eq {R : Type} (k : Nat) (G : KT1 R) (σ : GS) (h : Heap) : KC k 22 c1 σ h (fun x σ h => G x (σ 2) h) = n1 k G (σ 0) (σ 2) h := (kseq (b := c2) rfl (fun σ h => n2_eq k G σ h)).trans (n1_eq0 k G σ h)
noncomputable def c15 : Code := cL c0
@[simp] def n0 {R : Type} (k : Nat) (G : KT1 R) (v0 : GV) (h : Heap) : Option R := n1 k G v0 .nils h
theorem n0_eq0 {R : Type} (k : Nat) (G : KT1 R) (σ : GS) (h : Heap) : KC k 22 c15 σ h (fun x σ h => kx x (n1 k G (σ 0) (σ 2) h) (G x (σ 2) h)) = n0 k G (σ 0) h := by kernel_rfl
theorem n0_eq {R : Type} (k : Nat) (G : KT1 R) (σ : GS) (h : Heap) : KC k 22 c0 σ h (fun x σ h => G x (σ 2) h) = n0 k G (σ 0) h := (kseq (b := c1) rfl (fun σ h => n1_eq k G σ h)).trans (n0_eq0 k G σ h)
def run {R : Type} (k : Nat) (a0 : GV) (h : Heap) (fin : GV → Heap → Option R) : Option R := n0 k (fun x v2 h => kend x (fin v2 h)) a0 h
theorem run_eq {R : Type} (k : Nat) (a0 : GV) (h : Heap) (fin : GV → Heap → Option R) : kfun PP cfg NN HH k fn.laws_toInt64S [a0] h fin = run k a0 h fin := (kfun_eq (nt := 22) (c := c0) (show PP.funcs[fn.laws_toInt64S]? = some Try.f117 by kernel_rfl) (by kernel_rfl) (by kernel_rfl) (fun x σ h => by cases x <;> kernel_rfl)).trans (n0_eq k (fun x v2 h => kend x (fin v2 h)) _ h)
theorem gives {k : Nat} {a0 : GV} {b : Nat} {q : GV × List (List GV)} (e : run k a0 [] (finO b) = some q) : OO fn.laws_toInt64S [a0] b = some q := oω_of ((run_eq k a0 [] (finO b)).trans e)
end S.laws_toInt64S
/-! laws_eqServer -/
namespace S.laws_eqServer
noncomputable def c0 : Code := bodyOf Try.f118
@[simp] def n0 {R : Type} (k : Nat) (G : KT1 R) (v0 v1 : GV) (h : Heap) : Option R := kbox v0 h fun v2 h => kbox v1 h fun v3 h => (kfa 0 v2).bind fun v5 => (kload1 h v5).bind fun v6 => (kfa 0 v3).bind fun v7 => (kload1 h v7).bind fun v8 => (kN NN fn.laws_eqStringS [v6, v8] h).bind fun v9 => (kun .not v9).bind fun v10 => kcond v10 (G .ret (.bool false) h) ((kfa 1 v2).bind fun v11 => (kload1 h v11).bind fun v12 => (kfa 1 v3).bind fun v13 => (kload1 h v13).bind fun v14 => (kbin .neq v12 v14).bind fun v15 => kcond v15 (G .ret (.bool false) h) (G .ret (.bool true) h))
theorem n0_eq {R : Type} (k : Nat) (G : KT1 R) (σ : GS) (h : Heap) : KC k 16 c0 σ h (fun x σ h => G x (σ 4) h) = n0 k G (σ 0) (σ 1) h := by kernel_rfl
def run {R : Type} (k : Nat) (a0 : GV) (a1 : GV) (h : Heap) (fin : GV → Heap → Option R) : Option R := n0 k (fun x v4 h => kend x (fin v4 h)) a0 a1 h
theorem run_eq {R : Type} (k : Nat) (a0 : GV) (a1 : GV) (h : Heap) (fin : GV → Heap → Option R) : kfun PP cfg NN HH k fn.laws_eqServer [a0, a1] h fin = run k a0 a1 h fin := (kfun_eq (nt := 16) (c := c0) (show PP.funcs[fn.laws_eqServer]? = some Try.f118 by kernel_rfl) (by kernel_rfl) (by kernel_rfl) (fun x σ h => by cases x <;> kernel_rfl)).trans (n0_eq k (fun x v4 h => kend x (fin v4 h)) _ h)
theorem gives {k : Nat} {a0 : GV} {a1 : GV} {v : GV} (e : run k a0 a1 [] finN = some v) : NN fn.laws_eqServer [a0, a1] = some v := nω_of (by kernel_rfl) ((run_eq k a0 a1 [] finN).trans e)
end S.laws_eqServer
/-! laws_eqInt64S -/
namespace S.laws_eqInt64S
noncomputable def c0 : Code := bodyOf Try.f119
noncomputable def c1 : Code := cR c0
noncomputable def c2 : Code := cR c1
noncomputable def c3 : Code := cR c2
@[simp] def n3 {R : Type} (k : Nat) (G : KT1 R) (h : Heap) : Option R := G .ret (.bool true) h
theorem n3_eq {R : Type} (k : Nat) (G : KT1 R) (σ : GS) (h : Heap) : KC k 26 c3 σ h (fun x σ h => G x (σ 4) h) = n3 k G h := by kernel_rfl
noncomputable def c4 : Code := cL c2
noncomputable def c5 : Code := cR c4
noncomputable def c6 : Code := cL c5
noncomputable def c7 : Code := cL c6
noncomputable def c8 : Code := cR c7
noncomputable def c9 : Code := cR c8
@[simp] def n9 {R : Type} (k : Nat) (G : KT4 R) (v0 v1 v4 v5 : GV) (h : Heap) : Option R := (kbin .add v5 (.int .i64 1)).bind fun v16 => G .nrm v0 v1 v4 v16 h
theorem n9_eq {R : Type} (k : Nat) (G : KT4 R) (σ : GS) (h : Heap) : KC k 26 c9 σ h (fun x σ h => G x (σ 0) (σ 1) (σ 4) (σ 5) h) = n9 k G (σ 0) (σ 1) (σ 4) (σ 5) h := by kernel_rfl
noncomputable def c10 : Code := cL c8
noncomputable def c11 : Code := cL c10
@[simp] def n11 {R : Type} (k : Nat) (G : KT4 R) (v0 v1 v4 v5 : GV) (h : Heap) : Option R := (kia 1 v0 v5).bind fun v19 => (kload1 h v19).bind fun v20 => (kia 1 v1 v5).bind fun v23 => (kload1 h v23).bind fun v24 => (kbin .neq v20 v24).bind fun v25 => kcond v25 (G .ret v0 v1 (.bool false) v5 h) (G .nrm v0 v1 v4 v5 h)
theorem n11_eq {R : Type} (k : Nat) (G : KT4 R) (σ : GS) (h : Heap) : KC k 26 c11 σ h (fun x σ h => G x (σ 0) (σ 1) (σ 4) (σ 5) h) = n11 k G (σ 0) (σ 1) (σ 4) (σ 5) h := by kernel_rfl
@[simp] def n10 {R : Type} (k : Nat) (G : KT4 R) (v0 v1 v4 v5 : GV) (h : Heap) : Option R := n11 k (fun x v0 v1 v4 v5 h => kb 1 x fun x => G x v0 v1 v4 v5 h) v0 v1 v4 v5 h
theorem n10_eq {R : Type} (k : Nat) (G : KT4 R) (σ : GS) (h : Heap) : KC k 26 c10 σ h (fun x σ h => G x (σ 0) (σ 1) (σ 4) (σ 5) h) = n10 k G (σ 0) (σ 1) (σ 4) (σ 5) h := (kblock_eq (a := c11) rfl).trans (n11_eq k (fun x v0 v1 v4 v5 h => kb 1 x fun x => G x v0 v1 v4 v5 h) σ h)
@[simp] def n8 {R : Type} (k : Nat) (G : KT4 R) (v0 v1 v4 v5 : GV) (h : Heap) : Option R := n10 k (fun x v0 v1 v4 v5 h => kx x (n9 k G v0 v1 v4 v5 h) (G x v0 v1 v4 v5 h)) v0 v1 v4 v5 h
theorem n8_eq {R : Type} (k : Nat) (G : KT4 R) (σ : GS) (h : Heap) : KC k 26 c8 σ h (fun x σ h => G x (σ 0) (σ 1) (σ 4) (σ 5) h) = n8 k G (σ 0) (σ 1) (σ 4) (σ 5) h := (kseq (b := c9) rfl (fun σ h => n9_eq k G σ h)).trans (n10_eq k (fun x v0 v1 v4 v5 h => kx x (n9 k G v0 v1 v4 v5 h) (G x v0 v1 v4 v5 h)) σ h)
noncomputable def c12 : Code := cL c7
@[simp] def n7 {R : Type} (k : Nat) (G : KT4 R) (v0 v1 v4 v5 : GV) (h : Heap) : Option R := (klen v0).bind fun v13 => (kbin .lss v5 v13).bind fun v14 => kcond v14 (n8 k G v0 v1 v4 v5 h) (G (.ext 0) v0 v1 v4 v5 h)
theorem n7_eq0 {R : Type} (k : Nat) (G : KT4 R) (σ : GS) (h : Heap) : KC k 26 c12 σ h (fun x σ h => kx x (n8 k G (σ 0) (σ 1) (σ 4) (σ 5) h) (G x (σ 0) (σ 1) (σ 4) (σ 5) h)) = n7 k G (σ 0) (σ 1) (σ 4) (σ 5) h := by kernel_rfl
theorem n7_eq {R : Type} (k : Nat) (G : KT4 R) (σ : GS) (h : Heap) : KC k 26 c7 σ h (fun x σ h => G x (σ 0) (σ 1) (σ 4) (σ 5) h) = n7 k G (σ 0) (σ 1) (σ 4) (σ 5) h := (kseq (b := c8) rfl (fun σ h => n8_eq k G σ h)).trans (n7_eq0 k G σ h)
def l6 {R : Type} (k : Nat) (G : KT1 R) : Nat → GV → GV → GV → GV → Heap → Option R
  | 0, _, _, _, _, _ => none
  | r + 1, v0, v1, v4, v5, h => n7 k (fun x v0 v1 v4 v5 h => kx x (l6 k G r v0 v1 v4 v5 h) (G x v4 h)) v0 v1 v4 v5 h
theorem l6_eq {R : Type} (k : Nat) (G : KT1 R) : ∀ (r : Nat) (σ : GS) (h : Heap), kloop (fun σ h K => KC k 26 c7 σ h K) r σ h (fun x σ h => G x (σ 4) h) = l6 k G r (σ 0) (σ 1) (σ 4) (σ 5) h
  | 0, _, _ => rfl
  | r + 1, σ, h => (kloop_eq (fun σ h => l6_eq k G r σ h)).trans (n7_eq k (fun x v0 v1 v4 v5 h => kx x (l6 k G r v0 v1 v4 v5 h) (G x v4 h)) σ h)
@[simp] def n6 {R : Type} (k : Nat) (G : KT1 R) (v0 v1 v4 v5 : GV) (h : Heap) : Option R := l6 k G k v0 v1 v4 v5 h
theorem n6_eq {R : Type} (k : Nat) (G : KT1 R) (σ : GS) (h : Heap) : KC k 26 c6 σ h (fun x σ h => G x (σ 4) h) = n6 k G (σ 0) (σ 1) (σ 4) (σ 5) h := (kloopc_eq (a := c7) rfl).trans (l6_eq k G k σ h)
@[simp] def n5 {R : Type} (k : Nat) (G : KT1 R) (v0 v1 v4 v5 : GV) (h : Heap) : Option R := n6 k (fun x v4 h => kb 0 x fun x => G x v4 h) v0 v1 v4 v5 h
theorem n5_eq {R : Type} (k : Nat) (G : KT1 R) (σ : GS) (h : Heap) : KC k 26 c5 σ h (fun x σ h => G x (σ 4) h) = n5 k G (σ 0) (σ 1) (σ 4) (σ 5) h := (kblock_eq (a := c6) rfl).trans (n6_eq k (fun x v4 h => kb 0 x fun x => G x v4 h) σ h)
noncomputable def c13 : Code := cL c4
@[simp] def n4 {R : Type} (k : Nat) (G : KT1 R) (v0 v1 v4 : GV) (h : Heap) : Option R := n5 k G v0 v1 v4 (.int .i64 0) h
theorem n4_eq0 {R : Type} (k : Nat) (G : KT1 R) (σ : GS) (h : Heap) : KC k 26 c13 σ h (fun x σ h => kx x (n5 k G (σ 0) (σ 1) (σ 4) (σ 5) h) (G x (σ 4) h)) = n4 k G (σ 0) (σ 1) (σ 4) h := by kernel_rfl
theorem n4_eq {R : Type} (k : Nat) (G : KT1 R) (σ : GS) (h : Heap) : KC k 26 c4 σ h (fun x σ h => G x (σ 4) h) = n4 k G (σ 0) (σ 1) (σ 4) h := (kseq (b := c5) rfl (fun σ h => n5_eq k G σ h)).trans (n4_eq0 k G σ h)
@[simp] def n2 {R : Type} (k : Nat) (G : KT1 R) (v0 v1 v4 : GV) (h : Heap) : Option R := n4 k (fun x v4 h => kx x (n3 k G h) (G x v4 h)) v0 v1 v4 h
theorem n2_eq {R : Type} (k : Nat) (G : KT1 R) (σ : GS) (h : Heap) : KC k 26 c2 σ h (fun x σ h => G x (σ 4) h) = n2 k G (σ 0) (σ 1) (σ 4) h := (kseq (b := c3) rfl (fun σ h => n3_eq k G σ h)).trans (n4_eq k (fun x v4 h => kx x (n3 k G h) (G x v4 h)) σ h)
noncomputable def c14 : Code := cL c1
@[simp] def n1 {R : Type} (k : Nat) (G : KT1 R) (v0 v1 v4 : GV) (h : Heap) : Option R := (klen v0).bind fun v7 => (klen v1).bind fun v9 => (kbin .neq v7 v9).bind fun v10 => kcond v10 (G .ret (.bool false) h) (n2 k G v0 v1 v4 h)
theorem n1_eq0 {R : Type} (k : Nat) (G : KT1 R) (σ : GS) (h : Heap) : KC k 26 c14 σ h (fun x σ h => kx x (n2 k G (σ 0) (σ 1) (σ 4) h) (G x (σ 4) h)) = n1 k G (σ 0) (σ 1) (σ 4) h := by kernel_rfl
theorem n1_eq {R : Type} (k : Nat) (G : KT1 R) (σ : GS) (h : Heap) : KC k 26 c1 σ h (fun x σ h => G x (σ 4) h) = n1 k G (σ 0) (σ 1) (σ 4) h := (kseq (b := c2) rfl (fun σ h => n2_eq k G σ h)).trans (n1_eq0 k G σ h)
noncomputable def c15 : Code := cL c0
@[simp] def n0 {R : Type} (k : Nat) (G : KT1 R) (v0 v1 : GV) (h : Heap) : Option R := n1 k G v0 v1 (.bool false) h
theorem n0_eq0 {R : Type} (k : Nat) (G : KT1 R) (σ : GS) (h : Heap) : KC k 26 c15 σ h (fun x σ h => kx x (n1 k G (σ 0) (σ 1) (σ 4) h) (G x (σ 4) h)) = n0 k G (σ 0) (σ 1) h := by kernel_rfl
theorem n0_eq {R : Type} (k : Nat) (G : KT1 R) (σ : GS) (h : Heap) : KC k 26 c0 σ h (fun x σ h => G x (σ 4) h) = n0 k G (σ 0) (σ 1) h := (kseq (b := c1) rfl (fun σ h => n1_eq k G σ h)).trans (n0_eq0 k G σ h)
def run {R : Type} (k : Nat) (a0 : GV) (a1 : GV) (h : Heap) (fin : GV → Heap → Option R) : Option R := n0 k (fun x v4 h => kend x (fin v4 h)) a0 a1 h
theorem run_eq {R : Type} (k : Nat) (a0 : GV) (a1 : GV) (h : Heap) (fin : GV → Heap → Option R) : kfun PP cfg NN HH k fn.laws_eqInt64S [a0, a1] h fin = run k a0 a1 h fin := (kfun_eq (nt := 26) (c := c0) (show PP.funcs[fn.laws_eqInt64S]? = some Try.f119 by kernel_rfl) (by kernel_rfl) (by kernel_rfl) (fun x σ h => by cases x <;> kernel_rfl)).trans (n0_eq k (fun x v4 h => kend x (fin v4 h)) _ h)
theorem gives {k : Nat} {a0 : GV} {a1 : GV} {v : GV} (e : run k a0 a1 [] finN = some v) : NN fn.laws_eqInt64S [a0, a1] = some v := nω_of (by kernel_rfl) ((run_eq k a0 a1 [] finN).trans e)
end S.laws_eqInt64S
/-! laws_markInt64S -/
namespace S.laws_markInt64S
noncomputable def c0 : Code := bodyOf Try.f120
noncomputable def c1 : Code := cR c0
noncomputable def c2 : Code := cR c1
@[simp] def n2 {R : Type} (k : Nat) (G : KT1 R) (v1 : GV) (h : Heap) : Option R := G .ret v1 h
theorem n2_eq {R : Type} (k : Nat) (G : KT1 R) (σ : GS) (h : Heap) : KC k 19 c2 σ h (fun x σ h => G x (σ 4) h) = n2 k G (σ 1) h := by kernel_rfl
noncomputable def c3 : Code := cL c1
noncomputable def c4 : Code := cR c3
noncomputable def c5 : Code := cL c4
noncomputable def c6 : Code := cL c5
noncomputable def c7 : Code := cR c6
noncomputable def c8 : Code := cR c7
@[simp] def n8 {R : Type} (k : Nat) (G : KT4 R) (v0 v1 v4 v5 : GV) (h : Heap) : Option R := (kbin .add v5 (.int .i64 1)).bind fun v11 => G .nrm v0 v1 v4 v11 h
theorem n8_eq {R : Type} (k : Nat) (G : KT4 R) (σ : GS) (h : Heap) : KC k 19 c8 σ h (fun x σ h => G x (σ 0) (σ 1) (σ 4) (σ 5) h) = n8 k G (σ 0) (σ 1) (σ 4) (σ 5) h := by kernel_rfl
noncomputable def c9 : Code := cL c7
noncomputable def c10 : Code := cL c9
@[simp] def n10 {R : Type} (k : Nat) (G : KT4 R) (v0 v1 v4 v5 : GV) (h : Heap) : Option R := (kia 1 v0 v5).bind fun v15 => (kstore 1 h v15 v1).bind fun h => (kbin .add v1 (.int .i64 1)).bind fun v17 => G .nrm v0 v17 v4 v5 h
theorem n10_eq {R : Type} (k : Nat) (G : KT4 R) (σ : GS) (h : Heap) : KC k 19 c10 σ h (fun x σ h => G x (σ 0) (σ 1) (σ 4) (σ 5) h) = n10 k G (σ 0) (σ 1) (σ 4) (σ 5) h := by kernel_rfl
@[simp] def n9 {R : Type} (k : Nat) (G : KT4 R) (v0 v1 v4 v5 : GV) (h : Heap) : Option R := n10 k (fun x v0 v1 v4 v5 h => kb 1 x fun x => G x v0 v1 v4 v5 h) v0 v1 v4 v5 h
theorem n9_eq {R : Type} (k : Nat) (G : KT4 R) (σ : GS) (h : Heap) : KC k 19 c9 σ h (fun x σ h => G x (σ 0) (σ 1) (σ 4) (σ 5) h) = n9 k G (σ 0) (σ 1) (σ 4) (σ 5) h := (kblock_eq (a := c10) rfl).trans (n10_eq k (fun x v0 v1 v4 v5 h => kb 1 x fun x => G x v0 v1 v4 v5 h) σ h)
@[simp] def n7 {R : Type} (k : Nat) (G : KT4 R) (v0 v1 v4 v5 : GV) (h : Heap) : Option R := n9 k (fun x v0 v1 v4 v5 h => kx x (n8 k G v0 v1 v4 v5 h) (G x v0 v1 v4 v5 h)) v0 v1 v4 v5 h
theorem n7_eq {R : Type} (k : Nat) (G : KT4 R) (σ : GS) (h : Heap) : KC k 19 c7 σ h (fun x σ h => G x (σ 0) (σ 1) (σ 4) (σ 5) h) = n7 k G (σ 0) (σ 1) (σ 4) (σ 5) h := (kseq (b := c8) rfl (fun σ h => n8_eq k G σ h)).trans (n9_eq k (fun x v0 v1 v4 v5 h => kx x (n8 k G v0 v1 v4 v5 h) (G x v0 v1 v4 v5 h)) σ h)
noncomputable def c11 : Code := cL c6
@[simp] def n6 {R : Type} (k : Nat) (G : KT4 R) (v0 v1 v4 v5 : GV) (h : Heap) : Option R := (klen v0).bind fun v8 => (kbin .lss v5 v8).bind fun v9 => kcond v9 (n7 k G v0 v1 v4 v5 h) (G (.ext 0) v0 v1 v4 v5 h)
theorem n6_eq0 {R : Type} (k : Nat) (G : KT4 R) (σ : GS) (h : Heap) : KC k 19 c11 σ h (fun x σ h => kx x (n7 k G (σ 0) (σ 1) (σ 4) (σ 5) h) (G x (σ 0) (σ 1) (σ 4) (σ 5) h)) = n6 k G (σ 0) (σ 1) (σ 4) (σ 5) h := by kernel_rfl
theorem n6_eq {R : Type} (k : Nat) (G : KT4 R) (σ : GS) (h : Heap) : KC k 19 c6 σ h (fun x σ h => G x (σ 0) (σ 1) (σ 4) (σ 5) h) = n6 k G (σ 0) (σ 1) (σ 4) (σ 5) h := (kseq (b := c7) rfl (fun σ h => n7_eq k G σ h)).trans (n6_eq0 k G σ h)
def l5 {R : Type} (k : Nat) (G : KT2 R) : Nat → GV → GV → GV → GV → Heap → Option R
  | 0, _, _, _, _, _ => none
  | r + 1, v0, v1, v4, v5, h => n6 k (fun x v0 v1 v4 v5 h => kx x (l5 k G r v0 v1 v4 v5 h) (G x v1 v4 h)) v0 v1 v4 v5 h
theorem l5_eq {R : Type} (k : Nat) (G : KT2 R) : ∀ (r : Nat) (σ : GS) (h : Heap), kloop (fun σ h K => KC k 19 c6 σ h K) r σ h (fun x σ h => G x (σ 1) (σ 4) h) = l5 k G r (σ 0) (σ 1) (σ 4) (σ 5) h
  | 0, _, _ => rfl
  | r + 1, σ, h => (kloop_eq (fun σ h => l5_eq k G r σ h)).trans (n6_eq k (fun x v0 v1 v4 v5 h => kx x (l5 k G r v0 v1 v4 v5 h) (G x v1 v4 h)) σ h)
@[simp] def n5 {R : Type} (k : Nat) (G : KT2 R) (v0 v1 v4 v5 : GV) (h : Heap) : Option R := l5 k G k v0 v1 v4 v5 h
theorem n5_eq {R : Type} (k : Nat) (G : KT2 R) (σ : GS) (h : Heap) : KC k 19 c5 σ h (fun x σ h => G x (σ 1) (σ 4) h) = n5 k G (σ 0) (σ 1) (σ 4) (σ 5) h := (kloopc_eq (a := c6) rfl).trans (l5_eq k G k σ h)
@[simp] def n4 {R : Type} (k : Nat) (G : KT2 R) (v0 v1 v4 v5 : GV) (h : Heap) : Option R := n5 k (fun x v1 v4 h => kb 0 x fun x => G x v1 v4 h) v0 v1 v4 v5 h
theorem n4_eq {R : Type} (k : Nat) (G : KT2 R) (σ : GS) (h : Heap) : KC k 19 c4 σ h (fun x σ h => G x (σ 1) (σ 4) h) = n4 k G (σ 0) (σ 1) (σ 4) (σ 5) h := (kblock_eq (a := c5) rfl).trans (n5_eq k (fun x v1 v4 h => kb 0 x fun x => G x v1 v4 h) σ h)
noncomputable def c12 : Code := cL c3
@[simp] def n3 {R : Type} (k : Nat) (G : KT2 R) (v0 v1 v4 : GV) (h : Heap) : Option R := n4 k G v0 v1 v4 (.int .i64 0) h
theorem n3_eq0 {R : Type} (k : Nat) (G : KT2 R) (σ : GS) (h : Heap) : KC k 19 c12 σ h (fun x σ h => kx x (n4 k G (σ 0) (σ 1) (σ 4) (σ 5) h) (G x (σ 1) (σ 4) h)) = n3 k G (σ 0) (σ 1) (σ 4) h := by kernel_rfl
theorem n3_eq {R : Type} (k : Nat) (G : KT2 R) (σ : GS) (h : Heap) : KC k 19 c3 σ h (fun x σ h => G x (σ 1) (σ 4) h) = n3 k G (σ 0) (σ 1) (σ 4) h := (kseq (b := c4) rfl (fun σ h => n4_eq k G σ h)).trans (n3_eq0 k G σ h)
@[simp] def n1 {R : Type} (k : Nat) (G : KT1 R) (v0 v1 v4 : GV) (h : Heap) : Option R := n3 k (fun x v1 v4 h => kx x (n2 k G v1 h) (G x v4 h)) v0 v1 v4 h
theorem n1_eq {R : Type} (k : Nat) (G : KT1 R) (σ : GS) (h : Heap) : KC k 19 c1 σ h (fun x σ h => G x (σ 4) h) = n1 k G (σ 0) (σ 1) (σ 4) h := (kseq (b := c2) rfl (fun σ h => n2_eq k G σ h)).trans (n3_eq k (fun x v1 v4 h => kx x (n2 k G v1 h) (G x v4 h)) σ h)
noncomputable def c13 : Code := cL c0
@[simp] def n0 {R : Type} (k : Nat) (G : KT1 R) (v0 v1 : GV) (h : Heap) : Option R := n1 k G v0 v1 (.int .i64 0) h
theorem n0_eq0 {R : Type} (k : Nat) (G : KT1 R) (σ : GS) (h : Heap) : KC k 19 c13 σ h (fun x σ h => kx x (n1 k G (σ 0) (σ 1) (σ 4) h) (G x (σ 4) h)) = n0 k G (σ 0) (σ 1) h := by kernel_rfl
theorem n0_eq {R : Type} (k : Nat) (G : KT1 R) (σ : GS) (h : Heap) : KC k 19 c0 σ h (fun x σ h => G x (σ 4) h) = n0 k G (σ 0) (σ 1) h := (kseq (b := c1) rfl (fun σ h => n1_eq k G σ h)).trans (n0_eq0 k G σ h)
def run {R : Type} (k : Nat) (a0 : GV) (a1 : GV) (h : Heap) (fin : GV → Heap → Option R) : Option R := n0 k (fun x v4 h => kend x (fin v4 h)) a0 a1 h
theorem run_eq {R : Type} (k : Nat) (a0 : GV) (a1 : GV) (h : Heap) (fin : GV → Heap → Option R) : kfun PP cfg NN HH k fn.laws_markInt64S [a0, a1] h fin = run k a0 a1 h fin := (kfun_eq (nt := 19) (c := c0) (show PP.funcs[fn.laws_markInt64S]? = some Try.f120 by kernel_rfl) (by kernel_rfl) (by kernel_rfl) (fun x σ h => by cases x <;> kernel_rfl)).trans (n0_eq k (fun x v4 h => kend x (fin v4 h)) _ h)
theorem gives {k : Nat} {a0 : GV} {a1 : GV} {h : Heap} {r : GV × Heap} (e : run k a0 a1 h finH = some r) : HH fn.laws_markInt64S [a0, a1] h = some r := kω_of ((run_eq k a0 a1 h finH).trans e)
end S.laws_markInt64S
/-! laws_heldInt64S -/
namespace S.laws_heldInt64S
noncomputable def c0 : Code := bodyOf Try.f122
noncomputable def c1 : Code := cR c0
noncomputable def c2 : Code := cR c1
@[simp] def n2 {R : Type} (k : Nat) (G : KT1 R) (v1 : GV) (h : Heap) : Option R := G .ret v1 h
theorem n2_eq {R : Type} (k : Nat) (G : KT1 R) (σ : GS) (h : Heap) : KC k 21 c2 σ h (fun x σ h => G x (σ 4) h) = n2 k G (σ 1) h := by kernel_rfl
noncomputable def c3 : Code := cL c1
noncomputable def c4 : Code := cR c3
noncomputable def c5 : Code := cL c4
noncomputable def c6 : Code := cL c5
noncomputable def c7 : Code := cR c6
noncomputable def c8 : Code := cR c7
@[simp] def n8 {R : Type} (k : Nat) (G : KT4 R) (v0 v1 v4 v5 : GV) (h : Heap) : Option R := (kbin .add v5 (.int .i64 1)).bind fun v11 => G .nrm v0 v1 v4 v11 h
theorem n8_eq {R : Type} (k : Nat) (G : KT4 R) (σ : GS) (h : Heap) : KC k 21 c8 σ h (fun x σ h => G x (σ 0) (σ 1) (σ 4) (σ 5) h) = n8 k G (σ 0) (σ 1) (σ 4) (σ 5) h := by kernel_rfl
noncomputable def c9 : Code := cL c7
noncomputable def c10 : Code := cL c9
@[simp] def n10 {R : Type} (k : Nat) (G : KT4 R) (v0 v1 v4 v5 : GV) (h : Heap) : Option R := (kia 1 v0 v5).bind fun v14 => (kload1 h v14).bind fun v15 => (kbin .neq v15 v1).bind fun v17 => kcond v17 (G .ret v0 v1 (.int .i64 (-1)) v5 h) ((kbin .add v1 (.int .i64 1)).bind fun v19 => G .nrm v0 v19 v4 v5 h)
theorem n10_eq {R : Type} (k : Nat) (G : KT4 R) (σ : GS) (h : Heap) : KC k 21 c10 σ h (fun x σ h => G x (σ 0) (σ 1) (σ 4) (σ 5) h) = n10 k G (σ 0) (σ 1) (σ 4) (σ 5) h := by kernel_rfl
@[simp] def n9 {R : Type} (k : Nat) (G : KT4 R) (v0 v1 v4 v5 : GV) (h : Heap) : Option R := n10 k (fun x v0 v1 v4 v5 h => kb 1 x fun x => G x v0 v1 v4 v5 h) v0 v1 v4 v5 h
theorem n9_eq {R : Type} (k : Nat) (G : KT4 R) (σ : GS) (h : Heap) : KC k 21 c9 σ h (fun x σ h => G x (σ 0) (σ 1) (σ 4) (σ 5) h) = n9 k G (σ 0) (σ 1) (σ 4) (σ 5) h := (kblock_eq (a := c10) rfl).trans (n10_eq k (fun x v0 v1 v4 v5 h => kb 1 x fun x => G x v0 v1 v4 v5 h) σ h)
@[simp] def n7 {R : Type} (k : Nat) (G : KT4 R) (v0 v1 v4 v5 : GV) (h : Heap) : Option R := n9 k (fun x v0 v1 v4 v5 h => kx x (n8 k G v0 v1 v4 v5 h) (G x v0 v1 v4 v5 h)) v0 v1 v4 v5 h
theorem n7_eq {R : Type} (k : Nat) (G : KT4 R) (σ : GS) (h : Heap) : KC k 21 c7 σ h (fun x σ h => G x (σ 0) (σ 1) (σ 4) (σ 5) h) = n7 k G (σ 0) (σ 1) (σ 4) (σ 5) h := (kseq (b := c8) rfl (fun σ h => n8_eq k G σ h)).trans (n9_eq k (fun x v0 v1 v4 v5 h => kx x (n8 k G v0 v1 v4 v5 h) (G x v0 v1 v4 v5 h)) σ h)
noncomputable def c11 : Code := cL c6
@[simp] def n6 {R : Type} (k : Nat) (G : KT4 R) (v0 v1 v4 v5 : GV) (h : Heap) : Option R := (klen v0).bind fun v8 => (kbin .lss v5 v8).bind fun v9 => kcond v9 (n7 k G v0 v1 v4 v5 h) (G (.ext 0) v0 v1 v4 v5 h)
theorem n6_eq0 {R : Type} (k : Nat) (G : KT4 R) (σ : GS) (h : Heap) : KC k 21 c11 σ h (fun x σ h => kx x (n7 k G (σ 0) (σ 1) (σ 4) (σ 5) h) (G x (σ 0) (σ 1) (σ 4) (σ 5) h)) = n6 k G (σ 0) (σ 1) (σ 4) (σ 5) h := by kernel_rfl
theorem n6_eq {R : Type} (k : Nat) (G : KT4 R) (σ : GS) (h : Heap) : KC k 21 c6 σ h (fun x σ h => G x (σ 0) (σ 1) (σ 4) (σ 5) h) = n6 k G (σ 0) (σ 1) (σ 4) (σ 5) h := (kseq (b := c7) rfl (fun σ h => n7_eq k G σ h)).trans (n6_eq0 k G σ h)
def l5 {R : Type} (k : Nat) (G : KT2 R) : Nat → GV → GV → GV → GV → Heap → Option R
  | 0, _, _, _, _, _ => none
  | r + 1, v0, v1, v4, v5, h => n6 k (fun x v0 v1 v4 v5 h => kx x (l5 k G r v0 v1 v4 v5 h) (G x v1 v4 h)) v0 v1 v4 v5 h
theorem l5_eq {R : Type} (k : Nat) (G : KT2 R) : ∀ (r : Nat) (σ : GS) (h : Heap), kloop (fun σ h K => KC k 21 c6 σ h K) r σ h (fun x σ h => G x (σ 1) (σ 4) h) = l5 k G r (σ 0) (σ 1) (σ 4) (σ 5) h
  | 0, _, _ => rfl
  | r + 1, σ, h => (kloop_eq (fun σ h => l5_eq k G r σ h)).trans (n6_eq k (fun x v0 v1 v4 v5 h => kx x (l5 k G r v0 v1 v4 v5 h) (G x v1 v4 h)) σ h)
@[simp] def n5 {R : Type} (k : Nat) (G : KT2 R) (v0 v1 v4 v5 : GV) (h : Heap) : Option R := l5 k G k v0 v1 v4 v5 h
theorem n5_eq {R : Type} (k : Nat) (G : KT2 R) (σ : GS) (h : Heap) : KC k 21 c5 σ h (fun x σ h => G x (σ 1) (σ 4) h) = n5 k G (σ 0) (σ 1) (σ 4) (σ 5) h := (kloopc_eq (a := c6) rfl).trans (l5_eq k G k σ h)
@[simp] def n4 {R : Type} (k : Nat) (G : KT2 R) (v0 v1 v4 v5 : GV) (h : Heap) : Option R := n5 k (fun x v1 v4 h => kb 0 x fun x => G x v1 v4 h) v0 v1 v4 v5 h
theorem n4_eq {R : Type} (k : Nat) (G : KT2 R) (σ : GS) (h : Heap) : KC k 21 c4 σ h (fun x σ h => G x (σ 1) (σ 4) h) = n4 k G (σ 0) (σ 1) (σ 4) (σ 5) h := (kblock_eq (a := c5) rfl).trans (n5_eq k (fun x v1 v4 h => kb 0 x fun x => G x v1 v4 h) σ h)
noncomputable def c12 : Code := cL c3
@[simp] def n3 {R : Type} (k : Nat) (G : KT2 R) (v0 v1 v4 : GV) (h : Heap) : Option R := n4 k G v0 v1 v4 (.int .i64 0) h
theorem n3_eq0 {R : Type} (k : Nat) (G : KT2 R) (σ : GS) (h : Heap) : KC k 21 c12 σ h (fun x σ h => kx x (n4 k G (σ 0) (σ 1) (σ 4) (σ 5) h) (G x (σ 1) (σ 4) h)) = n3 k G (σ 0) (σ 1) (σ 4) h := by kernel_rfl
theorem n3_eq {R : Type} (k : Nat) (G : KT2 R) (σ : GS) (h : Heap) : KC k 21 c3 σ h (fun x σ h => G x (σ 1) (σ 4) h) = n3 k G (σ 0) (σ 1) (σ 4) h := (kseq (b := c4) rfl (fun σ h => n4_eq k G σ h)).trans (n3_eq0 k G σ h)
@[simp] def n1 {R : Type} (k : Nat) (G : KT1 R) (v0 v1 v4 : GV) (h : Heap) : Option R := n3 k (fun x v1 v4 h => kx x (n2 k G v1 h) (G x v4 h)) v0 v1 v4 h
theorem n1_eq {R : Type} (k : Nat) (G : KT1 R) (σ : GS) (h : Heap) : KC k 21 c1 σ h (fun x σ h => G x (σ 4) h) = n1 k G (σ 0) (σ 1) (σ 4) h := (kseq (b := c2) rfl (fun σ h => n2_eq k G σ h)).trans (n3_eq k (fun x v1 v4 h => kx x (n2 k G v1 h) (G x v4 h)) σ h)
noncomputable def c13 : Code := cL c0
@[simp] def n0 {R : Type} (k : Nat) (G : KT1 R) (v0 v1 : GV) (h : Heap) : Option R := n1 k G v0 v1 (.int .i64 0) h
theorem n0_eq0 {R : Type} (k : Nat) (G : KT1 R) (σ : GS) (h : Heap) : KC k 21 c13 σ h (fun x σ h => kx x (n1 k G (σ 0) (σ 1) (σ 4) h) (G x (σ 4) h)) = n0 k G (σ 0) (σ 1) h := by kernel_rfl
theorem n0_eq {R : Type} (k : Nat) (G : KT1 R) (σ : GS) (h : Heap) : KC k 21 c0 σ h (fun x σ h => G x (σ 4) h) = n0 k G (σ 0) (σ 1) h := (kseq (b := c1) rfl (fun σ h => n1_eq k G σ h)).trans (n0_eq0 k G σ h)
def run {R : Type} (k : Nat) (a0 : GV) (a1 : GV) (h : Heap) (fin : GV → Heap → Option R) : Option R := n0 k (fun x v4 h => kend x (fin v4 h)) a0 a1 h
theorem run_eq {R : Type} (k : Nat) (a0 : GV) (a1 : GV) (h : Heap) (fin : GV → Heap → Option R) : kfun PP cfg NN HH k fn.laws_heldInt64S [a0, a1] h fin = run k a0 a1 h fin := (kfun_eq (nt := 21) (c := c0) (show PP.funcs[fn.laws_heldInt64S]? = some Try.f122 by kernel_rfl) (by kernel_rfl) (by kernel_rfl) (fun x σ h => by cases x <;> kernel_rfl)).trans (n0_eq k (fun x v4 h => kend x (fin v4 h)) _ h)
theorem gives {k : Nat} {a0 : GV} {a1 : GV} {v : GV} (e : run k a0 a1 [] finN = some v) : NN fn.laws_heldInt64S [a0, a1] = some v := nω_of (by kernel_rfl) ((run_eq k a0 a1 [] finN).trans e)
end S.laws_heldInt64S
end
end Go.Proofs.Ytopmnigfklgnkaa.G
