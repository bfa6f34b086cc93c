/- A loop that keeps something. What these functions do, told for open values, out of the machine with continuations. Printed by a program of this session. Rows of blanks of a style. Data in memory: what is handed back told; which blocks it leads to. Grids told; their cells. What these functions do, told for open values, out of the machine with continuations. Printed by a program of this session. -/
import Derived.Test.YtlbnioapepelnaaZeb0e6002
import Derived.Test.YtlbnioapepelnaaZ7df1697c
import Derived.KernelRfl
import Derived.Test.YtlbnioapepelnaaZf595ce2e
import Derived.Test.YtlbnioapepelnaaZfe0b0506
namespace Go.Proofs.Ytlbnioapepelnaa.G
open Go.RowKit
set_option linter.unusedVariables false
/-- A loop that keeps something. -/
theorem loop_inv {Q T : Type} {n : Nat} {Inv : Nat → T → Prop} {f : Nat → Nat → T → Q} {A : T → Q} (h1 : ∀ j r s, j < n → Inv j s → ∃ s', f (r + 1) j s = f r (j + 1) s' ∧ Inv (j + 1) s') (h2 : ∀ r s, Inv n s → f (r + 1) n s = A s) {s : T} (h0 : Inv 0 s) {m : Nat} (hm : n < m) : ∃ s', f m 0 s = A s' ∧ Inv n s' := by
  have key : ∀ m j s, n - j < m → j ≤ n → Inv j s → ∃ s', f m j s = A s' ∧ Inv n s' := by
    intro m
    induction m with
    | zero => intro j s h; omega
    | succ m ih =>
      intro j s hm hj hi
      rcases Nat.lt_or_ge j n with h | h
      · obtain ⟨s', a1, a2⟩ := h1 j m s h hi
        obtain ⟨s'', b1, b2⟩ := ih (j + 1) s' (by omega) (by omega) a2
        exact ⟨s'', a1.trans b1, b2⟩
      · have : j = n := by omega
        subst this
        exact ⟨s, h2 m s hi, hi⟩
  exact key m 0 s (by omega) (by omega) h0
end Go.Proofs.Ytlbnioapepelnaa.G

namespace Go.Proofs.Ytlbnioapepelnaa.G
open Go.RowKit
set_option linter.unusedVariables false
set_option maxRecDepth 100000
noncomputable section
variable {R : Type} (k : Nat)
/-! impl_Blank -/
namespace S.impl_Blank
noncomputable def c0 : Code := bodyOf Try.f258
noncomputable def c1 : Code := cR c0
noncomputable def c2 : Code := cR c1
@[simp] def n2 {R : Type} (k : Nat) (G : KT1 R) (v0 v3 : GV) (h : Heap) : Option R := (kloadA 5 h v3).bind fun v13 => (kN NN fn.impl_blank [v13] h).bind fun v14 => (gfill (fun i => some (i * 7, 7)) (zeros [(.int .i64 0), (.int .i64 0), (.int .i64 0), (.bool false), (.bool false), (.bool false), (.int .i64 0)] 1) [(0, v14)]).bind fun c => kbs 1 7 c h fun v15 h => (kF false HH fn.slices_Repeat_impl_Cell [v15, v0] h).bind fun r => kr r fun v17 h => G .ret v17 h
theorem n2_eq (G : KT1 R) (σ : GS) (h : Heap) : KC k 18 c2 σ h (fun x σ h => G x (σ 4) h) = n2 k G (σ 0) (σ 3) h := by kernel_rfl
noncomputable def c3 : Code := cL c1
noncomputable def c4 : Code := cR c3
@[simp] def n4 {R : Type} (k : Nat) (G : KT3 R) (v0 v3 v4 v12 : GV) (h : Heap) : Option R := kcond v12 (G .ret v0 v3 .nils h) (G .nrm v0 v3 v4 h)
theorem n4_eq (G : KT3 R) (σ : GS) (h : Heap) : KC k 18 c4 σ h (fun x σ h => G x (σ 0) (σ 3) (σ 4) h) = n4 k G (σ 0) (σ 3) (σ 4) (σ 12) h := by kernel_rfl
noncomputable def c5 : Code := cL c3
noncomputable def o5 : Array Oper := cO c5
@[simp] def g5_2 {R : Type} (k : Nat) (G : KT4 R) (v0 v3 v4 v8 v11 : GV) (h : Heap) : Option R := (kpick v8 (.bool true) v11).bind fun v12 => G .nrm v0 v3 v4 v12 h
theorem g5_2_eq (G : KT4 R) (σ : GS) (h : Heap) : kgroups PP cfg NN HH 18 o5 [(none, [7])] σ h (fun σ h => G .nrm (σ 0) (σ 3) (σ 4) (σ 12) h) = g5_2 k G (σ 0) (σ 3) (σ 4) (σ 8) (σ 11) h := by kernel_rfl
@[simp] def g5_1 (G : KT4 R) (v0 v3 v4 v8 : GV) (h : Heap) : Option R := bif tr false v8 then (kloadA 5 h v3).bind fun v9 => (kN NN fn.impl_StyleOk [v9] h).bind fun v10 => (kun .not v10).bind fun v11 => g5_2 k G v0 v3 v4 v8 v11 h else g5_2 k G v0 v3 v4 v8 .un h
theorem g5_1_eq (G : KT4 R) (σ : GS) (h : Heap) : kgroups PP cfg NN HH 18 o5 [(some (3, false), [4, 5, 6]), (none, [7])] σ h (fun σ h => G .nrm (σ 0) (σ 3) (σ 4) (σ 12) h) = g5_1 k G (σ 0) (σ 3) (σ 4) (σ 8) h := (kgroups_cons (fun σ h => g5_2_eq k G σ h)).trans (by kernel_rfl)
@[simp] def g5_0 (G : KT4 R) (v0 v3 v4 : GV) (h : Heap) : Option R := (kN NN fn.impl_in [v0, (.int .i64 1), (.int .i64 60)] h).bind fun v6 => (kun .not v6).bind fun v7 => g5_1 k G v0 v3 v4 v7 h
theorem g5_0_eq (G : KT4 R) (σ : GS) (h : Heap) : kgroups PP cfg NN HH 18 o5 [(none, [0, 1, 2, 3]), (some (3, false), [4, 5, 6]), (none, [7])] σ h (fun σ h => G .nrm (σ 0) (σ 3) (σ 4) (σ 12) h) = g5_0 k G (σ 0) (σ 3) (σ 4) h := (kgroups_cons (fun σ h => g5_1_eq k G σ h)).trans (by kernel_rfl)
@[simp] def n5 (G : KT4 R) (v0 v3 v4 : GV) (h : Heap) : Option R := g5_0 k G v0 v3 v4 h
theorem n5_eq (G : KT4 R) (σ : GS) (h : Heap) : KC k 18 c5 σ h (fun x σ h => G x (σ 0) (σ 3) (σ 4) (σ 12) h) = n5 k G (σ 0) (σ 3) (σ 4) h := (kregion_eq (id := 1) (draw := false) (ops := o5) (gs := [(none, [0, 1, 2, 3]), (some (3, false), [4, 5, 6]), (none, [7])]) (by kernel_rfl) (by kernel_rfl) (by kernel_rfl)).trans (g5_0_eq k G σ h)
@[simp] def n3 (G : KT3 R) (v0 v3 v4 : GV) (h : Heap) : Option R := n5 k (fun x v0 v3 v4 v12 h => kx x (n4 k G v0 v3 v4 v12 h) (G x v0 v3 v4 h)) v0 v3 v4 h
theorem n3_eq (G : KT3 R) (σ : GS) (h : Heap) : KC k 18 c3 σ h (fun x σ h => G x (σ 0) (σ 3) (σ 4) h) = n3 k G (σ 0) (σ 3) (σ 4) h := (kseq (b := c4) rfl (fun σ h => n4_eq k G σ h)).trans (n5_eq k (fun x v0 v3 v4 v12 h => kx x (n4 k G v0 v3 v4 v12 h) (G x v0 v3 v4 h)) σ h)
@[simp] def n1 (G : KT1 R) (v0 v3 v4 : GV) (h : Heap) : Option R := n3 k (fun x v0 v3 v4 h => kx x (n2 k G v0 v3 h) (G x v4 h)) v0 v3 v4 h
theorem n1_eq (G : KT1 R) (σ : GS) (h : Heap) : KC k 18 c1 σ h (fun x σ h => G x (σ 4) h) = n1 k G (σ 0) (σ 3) (σ 4) h := (kseq (b := c2) rfl (fun σ h => n2_eq k G σ h)).trans (n3_eq k (fun x v0 v3 v4 h => kx x (n2 k G v0 v3 h) (G x v4 h)) σ h)
noncomputable def c6 : Code := cL c0
@[simp] def n0 (G : KT1 R) (v0 v1 : GV) (h : Heap) : Option R := kbox v1 h fun v3 h => n1 k G v0 v3 .nils h
theorem n0_eq (G : KT1 R) (σ : GS) (h : Heap) : KC k 18 c0 σ h (fun x σ h => G x (σ 4) h) = n0 k G (σ 0) (σ 1) h := (kseq (a := c6) (b := c1) rfl (fun σ h => n1_eq k G σ h)).trans (by kernel_rfl)
def run {R : Type} (k : Nat) (a0 : GV) (a1 : GV) (h : Heap) (fin : GV → Heap → Option R) : Option R := n0 k (fun x v4 h => kend x (fin v4 h)) a0 a1 h
theorem run_eq {R : Type} (k : Nat) (a0 : GV) (a1 : GV) (h : Heap) (fin : GV → Heap → Option R) : kfun PP cfg NN HH k fn.impl_Blank [a0, a1] h fin = run k a0 a1 h fin := (kfun_eq (nt := 18) (c := c0) (show PP.funcs[fn.impl_Blank]? = some Try.f258 by kernel_rfl) (by kernel_rfl) (by kernel_rfl) (fun x σ h => by cases x <;> kernel_rfl)).trans (n0_eq k (fun x v4 h => kend x (fin v4 h)) _ h)
theorem gives {k : Nat} {a0 : GV} {a1 : GV} {b : Nat} {q : GV × List (List GV)} (e : run k a0 a1 [] (finO b) = some q) : OO fn.impl_Blank [a0, a1] b = some q := oω_of ((run_eq k a0 a1 [] (finO b)).trans e)
end S.impl_Blank
/-! slices_Repeat_impl_Cell -/
namespace S.slices_Repeat_impl_Cell
noncomputable def c0 : Code := bodyOf Try.f282
noncomputable def c1 : Code := cR c0
noncomputable def c2 : Code := cR c1
noncomputable def c3 : Code := cR c2
noncomputable def c4 : Code := cR c3
noncomputable def c5 : Code := cR c4
noncomputable def c6 : Code := cR c5
noncomputable def c7 : Code := cR c6
@[simp] def n7 {R : Type} (k : Nat) (G : KT1 R) (v7 : GV) (h : Heap) : Option R := G .ret v7 h
theorem n7_eq (G : KT1 R) (σ : GS) (h : Heap) : KC k 48 c7 σ h (fun x σ h => G x (σ 4) h) = n7 k G (σ 7) h := by kernel_rfl
noncomputable def c8 : Code := cL c6
noncomputable def c9 : Code := cL c8
noncomputable def c10 : Code := cL c9
noncomputable def c11 : Code := cR c10
noncomputable def c12 : Code := cL c11
@[simp] def n12 {R : Type} (k : Nat) (G : KT3 R) (v4 v7 v8 : GV) (h : Heap) : Option R := (ksl 7 v7 (some v8) none none).bind fun v41 => (ksl 7 v7 none (some v8) none).bind fun v44 => (kcopy 7 v41 v44 h).bind fun r => kr r fun v45 h => (kbin .add v8 v45).bind fun v46 => G .nrm v4 v7 v46 h
theorem n12_eq (G : KT3 R) (σ : GS) (h : Heap) : KC k 48 c12 σ h (fun x σ h => G x (σ 4) (σ 7) (σ 8) h) = n12 k G (σ 4) (σ 7) (σ 8) h := by kernel_rfl
@[simp] def n11 (G : KT3 R) (v4 v7 v8 : GV) (h : Heap) : Option R := n12 k (fun x v4 v7 v8 h => kb 1 x fun x => G x v4 v7 v8 h) v4 v7 v8 h
theorem n11_eq (G : KT3 R) (σ : GS) (h : Heap) : KC k 48 c11 σ h (fun x σ h => G x (σ 4) (σ 7) (σ 8) h) = n11 k G (σ 4) (σ 7) (σ 8) h := (kblock_eq (a := c12) rfl).trans (n12_eq k (fun x v4 v7 v8 h => kb 1 x fun x => G x v4 v7 v8 h) σ h)
noncomputable def c13 : Code := cL c10
@[simp] def n10 (G : KT3 R) (v4 v7 v8 : GV) (h : Heap) : Option R := (klen v7).bind fun v36 => (kbin .lss v8 v36).bind fun v37 => kcond v37 (n11 k G v4 v7 v8 h) (G (.ext 0) v4 v7 v8 h)
theorem n10_eq (G : KT3 R) (σ : GS) (h : Heap) : KC k 48 c10 σ h (fun x σ h => G x (σ 4) (σ 7) (σ 8) h) = n10 k G (σ 4) (σ 7) (σ 8) h := (kseq (a := c13) (b := c11) rfl (fun σ h => n11_eq k G σ h)).trans (by kernel_rfl)
def l9 {R : Type} (k : Nat) (G : KT2 R) : Nat → GV → GV → GV → Heap → Option R
  | 0, _, _, _, _ => none
  | r + 1, v4, v7, v8, h => n10 k (fun x v4 v7 v8 h => kx x (l9 k G r v4 v7 v8 h) (G x v4 v7 h)) v4 v7 v8 h
theorem l9_eq {R : Type} (k : Nat) (G : KT2 R) : ∀ (r : Nat) (σ : GS) (h : Heap), kloop (fun σ h K => KC k 48 c10 σ h K) r σ h (fun x σ h => G x (σ 4) (σ 7) h) = l9 k G r (σ 4) (σ 7) (σ 8) h
  | 0, _, _ => rfl
  | r + 1, σ, h => (kloop_eq (fun σ h => l9_eq k G r σ h)).trans (n10_eq k (fun x v4 v7 v8 h => kx x (l9 k G r v4 v7 v8 h) (G x v4 v7 h)) σ h)
@[simp] def n9 (G : KT2 R) (v4 v7 v8 : GV) (h : Heap) : Option R := l9 k G k v4 v7 v8 h
theorem n9_eq (G : KT2 R) (σ : GS) (h : Heap) : KC k 48 c9 σ h (fun x σ h => G x (σ 4) (σ 7) h) = n9 k G (σ 4) (σ 7) (σ 8) h := (kloopc_eq (a := c10) rfl).trans (l9_eq k G k σ h)
@[simp] def n8 (G : KT2 R) (v4 v7 v8 : GV) (h : Heap) : Option R := n9 k (fun x v4 v7 h => kb 0 x fun x => G x v4 v7 h) v4 v7 v8 h
theorem n8_eq (G : KT2 R) (σ : GS) (h : Heap) : KC k 48 c8 σ h (fun x σ h => G x (σ 4) (σ 7) h) = n8 k G (σ 4) (σ 7) (σ 8) h := (kblock_eq (a := c9) rfl).trans (n9_eq k (fun x v4 v7 h => kb 0 x fun x => G x v4 v7 h) σ h)
@[simp] def n6 (G : KT1 R) (v4 v7 v8 : GV) (h : Heap) : Option R := n8 k (fun x v4 v7 h => kx x (n7 k G v7 h) (G x v4 h)) v4 v7 v8 h
theorem n6_eq (G : KT1 R) (σ : GS) (h : Heap) : KC k 48 c6 σ h (fun x σ h => G x (σ 4) h) = n6 k G (σ 4) (σ 7) (σ 8) h := (kseq (b := c7) rfl (fun σ h => n7_eq k G σ h)).trans (n8_eq k (fun x v4 v7 h => kx x (n7 k G v7 h) (G x v4 h)) σ h)
noncomputable def c14 : Code := cL c5
@[simp] def n5 (G : KT1 R) (v0 v4 v7 : GV) (h : Heap) : Option R := (kcopy 7 v7 v0 h).bind fun r => kr r fun v33 h => n6 k G v4 v7 v33 h
theorem n5_eq (G : KT1 R) (σ : GS) (h : Heap) : KC k 48 c5 σ h (fun x σ h => G x (σ 4) h) = n5 k G (σ 0) (σ 4) (σ 7) h := (kseq (a := c14) (b := c6) rfl (fun σ h => n6_eq k G σ h)).trans (by kernel_rfl)
noncomputable def c15 : Code := cL c4
@[simp] def n4 (G : KT1 R) (v0 v4 v6 : GV) (h : Heap) : Option R := (kconvI .i64 v6).bind fun v29 => (kmake [(.int .i64 0), (.int .i64 0), (.int .i64 0), (.bool false), (.bool false), (.bool false), (.int .i64 0)] 7 40 v29 v29 h).bind fun r => kr r fun v30 h => n5 k G v0 v4 v30 h
theorem n4_eq (G : KT1 R) (σ : GS) (h : Heap) : KC k 48 c4 σ h (fun x σ h => G x (σ 4) h) = n4 k G (σ 0) (σ 4) (σ 6) h := (kseq (a := c15) (b := c5) rfl (fun σ h => n5_eq k G σ h)).trans (by kernel_rfl)
noncomputable def c16 : Code := cL c3
noncomputable def c17 : Code := cR c16
@[simp] def n17 {R : Type} (k : Nat) (G : KT3 R) (v0 v4 v6 v26 : GV) (h : Heap) : Option R := kcond v26 (none) (G .nrm v0 v4 v6 h)
theorem n17_eq (G : KT3 R) (σ : GS) (h : Heap) : KC k 48 c17 σ h (fun x σ h => G x (σ 0) (σ 4) (σ 6) h) = n17 k G (σ 0) (σ 4) (σ 6) (σ 26) h := by kernel_rfl
noncomputable def c18 : Code := cL c16
noncomputable def o18 : Array Oper := cO c18
@[simp] def g18_2 {R : Type} (k : Nat) (G : KT4 R) (v0 v4 v6 v23 v25 : GV) (h : Heap) : Option R := (kpick v23 (.bool true) v25).bind fun v26 => G .nrm v0 v4 v6 v26 h
theorem g18_2_eq (G : KT4 R) (σ : GS) (h : Heap) : kgroups PP cfg NN HH 48 o18 [(none, [5])] σ h (fun σ h => G .nrm (σ 0) (σ 4) (σ 6) (σ 26) h) = g18_2 k G (σ 0) (σ 4) (σ 6) (σ 23) (σ 25) h := by kernel_rfl
@[simp] def g18_1 (G : KT4 R) (v0 v4 v6 v23 : GV) (h : Heap) : Option R := bif tr false v23 then (kbin .gtr v6 (.int .u64 9223372036854775807)).bind fun v25 => g18_2 k G v0 v4 v6 v23 v25 h else g18_2 k G v0 v4 v6 v23 .un h
theorem g18_1_eq (G : KT4 R) (σ : GS) (h : Heap) : kgroups PP cfg NN HH 48 o18 [(some (2, false), [3, 4]), (none, [5])] σ h (fun σ h => G .nrm (σ 0) (σ 4) (σ 6) (σ 26) h) = g18_1 k G (σ 0) (σ 4) (σ 6) (σ 23) h := (kgroups_cons (fun σ h => g18_2_eq k G σ h)).trans (by kernel_rfl)
@[simp] def g18_0 (G : KT4 R) (v0 v4 v5 v6 : GV) (h : Heap) : Option R := (kbin .gtr v5 (.int .u64 0)).bind fun v22 => g18_1 k G v0 v4 v6 v22 h
theorem g18_0_eq (G : KT4 R) (σ : GS) (h : Heap) : kgroups PP cfg NN HH 48 o18 [(none, [0, 1, 2]), (some (2, false), [3, 4]), (none, [5])] σ h (fun σ h => G .nrm (σ 0) (σ 4) (σ 6) (σ 26) h) = g18_0 k G (σ 0) (σ 4) (σ 5) (σ 6) h := (kgroups_cons (fun σ h => g18_1_eq k G σ h)).trans (by kernel_rfl)
@[simp] def n18 (G : KT4 R) (v0 v4 v5 v6 : GV) (h : Heap) : Option R := g18_0 k G v0 v4 v5 v6 h
theorem n18_eq (G : KT4 R) (σ : GS) (h : Heap) : KC k 48 c18 σ h (fun x σ h => G x (σ 0) (σ 4) (σ 6) (σ 26) h) = n18 k G (σ 0) (σ 4) (σ 5) (σ 6) h := (kregion_eq (id := 4) (draw := false) (ops := o18) (gs := [(none, [0, 1, 2]), (some (2, false), [3, 4]), (none, [5])]) (by kernel_rfl) (by kernel_rfl) (by kernel_rfl)).trans (g18_0_eq k G σ h)
@[simp] def n16 (G : KT3 R) (v0 v4 v5 v6 : GV) (h : Heap) : Option R := n18 k (fun x v0 v4 v6 v26 h => kx x (n17 k G v0 v4 v6 v26 h) (G x v0 v4 v6 h)) v0 v4 v5 v6 h
theorem n16_eq (G : KT3 R) (σ : GS) (h : Heap) : KC k 48 c16 σ h (fun x σ h => G x (σ 0) (σ 4) (σ 6) h) = n16 k G (σ 0) (σ 4) (σ 5) (σ 6) h := (kseq (b := c17) rfl (fun σ h => n17_eq k G σ h)).trans (n18_eq k (fun x v0 v4 v6 v26 h => kx x (n17 k G v0 v4 v6 v26 h) (G x v0 v4 v6 h)) σ h)
@[simp] def n3 (G : KT1 R) (v0 v4 v5 v6 : GV) (h : Heap) : Option R := n16 k (fun x v0 v4 v6 h => kx x (n4 k G v0 v4 v6 h) (G x v4 h)) v0 v4 v5 v6 h
theorem n3_eq (G : KT1 R) (σ : GS) (h : Heap) : KC k 48 c3 σ h (fun x σ h => G x (σ 4) h) = n3 k G (σ 0) (σ 4) (σ 5) (σ 6) h := (kseq (b := c4) rfl (fun σ h => n4_eq k G σ h)).trans (n16_eq k (fun x v0 v4 v6 h => kx x (n4 k G v0 v4 v6 h) (G x v4 h)) σ h)
noncomputable def c19 : Code := cL c2
@[simp] def n2 (G : KT1 R) (v0 v1 v4 : GV) (h : Heap) : Option R := (klen v0).bind fun v14 => (kconvI .u64 v14).bind fun v15 => (kconvI .u64 v1).bind fun v17 => (kN NN fn.math_bits_Mul [v15, v17] h).bind fun v18 => (kxt 0 v18).bind fun v19 => (kxt 1 v18).bind fun v20 => n3 k G v0 v4 v19 v20 h
theorem n2_eq (G : KT1 R) (σ : GS) (h : Heap) : KC k 48 c2 σ h (fun x σ h => G x (σ 4) h) = n2 k G (σ 0) (σ 1) (σ 4) h := (kseq (a := c19) (b := c3) rfl (fun σ h => n3_eq k G σ h)).trans (by kernel_rfl)
noncomputable def c20 : Code := cL c1
@[simp] def n1 (G : KT1 R) (v0 v1 v4 : GV) (h : Heap) : Option R := (kbin .lss v1 (.int .i64 0)).bind fun v10 => kcond v10 (none) (n2 k G v0 v1 v4 h)
theorem n1_eq (G : KT1 R) (σ : GS) (h : Heap) : KC k 48 c1 σ h (fun x σ h => G x (σ 4) h) = n1 k G (σ 0) (σ 1) (σ 4) h := (kseq (a := c20) (b := c2) rfl (fun σ h => n2_eq k G σ h)).trans (by kernel_rfl)
noncomputable def c21 : Code := cL c0
@[simp] def n0 (G : KT1 R) (v0 v1 : GV) (h : Heap) : Option R := n1 k G v0 v1 .nils h
theorem n0_eq (G : KT1 R) (σ : GS) (h : Heap) : KC k 48 c0 σ h (fun x σ h => G x (σ 4) h) = n0 k G (σ 0) (σ 1) h := (kseq (a := c21) (b := c1) rfl (fun σ h => n1_eq k G σ h)).trans (by kernel_rfl)
def run {R : Type} (k : Nat) (a0 : GV) (a1 : GV) (h : Heap) (fin : GV → Heap → Option R) : Option R := n0 k (fun x v4 h => kend x (fin v4 h)) a0 a1 h
theorem run_eq {R : Type} (k : Nat) (a0 : GV) (a1 : GV) (h : Heap) (fin : GV → Heap → Option R) : kfun PP cfg NN HH k fn.slices_Repeat_impl_Cell [a0, a1] h fin = run k a0 a1 h fin := (kfun_eq (nt := 48) (c := c0) (show PP.funcs[fn.slices_Repeat_impl_Cell]? = some Try.f282 by kernel_rfl) (by kernel_rfl) (by kernel_rfl) (fun x σ h => by cases x <;> kernel_rfl)).trans (n0_eq k (fun x v4 h => kend x (fin v4 h)) _ h)
theorem gives {k : Nat} {a0 : GV} {a1 : GV} {b : Nat} {q : GV × List (List GV)} (e : run k a0 a1 [] (finO b) = some q) : OO fn.slices_Repeat_impl_Cell [a0, a1] b = some q := oω_of ((run_eq k a0 a1 [] (finO b)).trans e)
end S.slices_Repeat_impl_Cell
/-! impl_blank -/
namespace S.impl_blank
noncomputable def c0 : Code := bodyOf Try.f283
@[simp] def n0 {R : Type} (k : Nat) (G : KT1 R) (v0 : GV) (h : Heap) : Option R := kbox v0 h fun v1 h => kalloc [(.int .i64 0), (.int .i64 0), (.int .i64 0), (.bool false), (.bool false), (.bool false), (.int .i64 0)] h fun v2 h => (kloadA 5 h v1).bind fun v3 => (gfill (fun i => [(0, 1), (1, 5), (6, 1)][i]?) [(.int .i64 0), (.int .i64 0), (.int .i64 0), (.bool false), (.bool false), (.bool false), (.int .i64 0)] [(0, (.int .i64 32)), (1, v3)]).bind fun c => kagg c h fun v4 h => (kstore 7 h v2 v4).bind fun h => G .ret v2 h
theorem n0_eq (G : KT1 R) (σ : GS) (h : Heap) : KC k 5 c0 σ h (fun x σ h => G x (σ 2) h) = n0 k G (σ 0) h := by kernel_rfl
def run {R : Type} (k : Nat) (a0 : GV) (h : Heap) (fin : GV → Heap → Option R) : Option R := n0 k (fun x v2 h => kend x ((kloadA 7 h v2).bind fun w2 => fin w2 h)) a0 h
theorem run_eq {R : Type} (k : Nat) (a0 : GV) (h : Heap) (fin : GV → Heap → Option R) : kfun PP cfg NN HH k fn.impl_blank [a0] h fin = run k a0 h fin := (kfun_eq (nt := 5) (c := c0) (show PP.funcs[fn.impl_blank]? = some Try.f283 by kernel_rfl) (by kernel_rfl) (by kernel_rfl) (fun x σ h => by cases x <;> kernel_rfl)).trans (n0_eq k (fun x v2 h => kend x ((kloadA 7 h v2).bind fun w2 => fin w2 h)) _ h)
theorem gives {k : Nat} {a0 : GV} {v : GV} (e : run k a0 [] finN = some v) : NN fn.impl_blank [a0] = some v := nω_of (by kernel_rfl) ((run_eq k a0 [] finN).trans e)
end S.impl_blank
/-! math_bits_Mul -/
namespace S.math_bits_Mul
noncomputable def c0 : Code := bodyOf Try.f289
@[simp] def n0 {R : Type} (k : Nat) (G : KT2 R) (v0 v1 : GV) (h : Heap) : Option R := kcond (.bool false) ((kconvI .u32 v0).bind fun v12 => (kconvI .u32 v1).bind fun v14 => (kN NN fn.math_bits_Mul32 [v12, v14] h).bind fun v15 => (kxt 0 v15).bind fun v16 => (kxt 1 v15).bind fun v17 => (kconvI .u64 v16).bind fun v19 => (kconvI .u64 v17).bind fun v21 => G .ret v19 v21 h) ((kN NN fn.math_bits_Mul64 [v0, v1] h).bind fun v25 => (kxt 0 v25).bind fun v26 => (kxt 1 v25).bind fun v27 => G .ret v26 v27 h)
theorem n0_eq (G : KT2 R) (σ : GS) (h : Heap) : KC k 30 c0 σ h (fun x σ h => G x (σ 4) (σ 5) h) = n0 k G (σ 0) (σ 1) h := by kernel_rfl
def run {R : Type} (k : Nat) (a0 : GV) (a1 : GV) (h : Heap) (fin : GV → Heap → Option R) : Option R := n0 k (fun x v4 v5 h => kend x (fin (.tup [v4, v5]) h)) a0 a1 h
theorem run_eq {R : Type} (k : Nat) (a0 : GV) (a1 : GV) (h : Heap) (fin : GV → Heap → Option R) : kfun PP cfg NN HH k fn.math_bits_Mul [a0, a1] h fin = run k a0 a1 h fin := (kfun_eq (nt := 30) (c := c0) (show PP.funcs[fn.math_bits_Mul]? = some Try.f289 by kernel_rfl) (by kernel_rfl) (by kernel_rfl) (fun x σ h => by cases x <;> kernel_rfl)).trans (n0_eq k (fun x v4 v5 h => kend x (fin (.tup [v4, v5]) h)) _ h)
theorem gives {k : Nat} {a0 : GV} {a1 : GV} {v : GV} (e : run k a0 a1 [] finN = some v) : NN fn.math_bits_Mul [a0, a1] = some v := nω_of (by kernel_rfl) ((run_eq k a0 a1 [] finN).trans e)
end S.math_bits_Mul
/-! math_bits_Mul64 -/
namespace S.math_bits_Mul64
noncomputable def c0 : Code := bodyOf Try.f291
@[simp] def n0 {R : Type} (k : Nat) (G : KT2 R) (v0 v1 : GV) (h : Heap) : Option R := (kbin .and v0 (.int .u64 4294967295)).bind fun v15 => (kbin .shr v0 (.int .u64 32)).bind fun v17 => (kbin .and v1 (.int .u64 4294967295)).bind fun v19 => (kbin .shr v1 (.int .u64 32)).bind fun v21 => (kbin .mul v15 v19).bind fun v24 => (kbin .mul v17 v19).bind fun v27 => (kbin .shr v24 (.int .u64 32)).bind fun v29 => (kbin .add v27 v29).bind fun v30 => (kbin .and v30 (.int .u64 4294967295)).bind fun v32 => (kbin .shr v30 (.int .u64 32)).bind fun v34 => (kbin .mul v15 v21).bind fun v38 => (kbin .add v32 v38).bind fun v39 => (kbin .mul v17 v21).bind fun v42 => (kbin .add v42 v34).bind fun v44 => (kbin .shr v39 (.int .u64 32)).bind fun v46 => (kbin .add v44 v46).bind fun v47 => (kbin .mul v0 v1).bind fun v50 => G .ret v47 v50 h
theorem n0_eq (G : KT2 R) (σ : GS) (h : Heap) : KC k 51 c0 σ h (fun x σ h => G x (σ 4) (σ 5) h) = n0 k G (σ 0) (σ 1) h := by kernel_rfl
def run {R : Type} (k : Nat) (a0 : GV) (a1 : GV) (h : Heap) (fin : GV → Heap → Option R) : Option R := n0 k (fun x v4 v5 h => kend x (fin (.tup [v4, v5]) h)) a0 a1 h
theorem run_eq {R : Type} (k : Nat) (a0 : GV) (a1 : GV) (h : Heap) (fin : GV → Heap → Option R) : kfun PP cfg NN HH k fn.math_bits_Mul64 [a0, a1] h fin = run k a0 a1 h fin := (kfun_eq (nt := 51) (c := c0) (show PP.funcs[fn.math_bits_Mul64]? = some Try.f291 by kernel_rfl) (by kernel_rfl) (by kernel_rfl) (fun x σ h => by cases x <;> kernel_rfl)).trans (n0_eq k (fun x v4 v5 h => kend x (fin (.tup [v4, v5]) h)) _ h)
theorem gives {k : Nat} {a0 : GV} {a1 : GV} {v : GV} (e : run k a0 a1 [] finN = some v) : NN fn.math_bits_Mul64 [a0, a1] = some v := nω_of (by kernel_rfl) ((run_eq k a0 a1 [] finN).trans e)
end S.math_bits_Mul64
/-! spec_l4Row -/
namespace S.spec_l4Row
noncomputable def c0 : Code := bodyOf Try.f230
noncomputable def c1 : Code := cR c0
noncomputable def c2 : Code := cR c1
noncomputable def c3 : Code := cR c2
@[simp] def n3 {R : Type} (k : Nat) (G : KT1 R) (v5 : GV) (h : Heap) : Option R := G .ret v5 h
theorem n3_eq (G : KT1 R) (σ : GS) (h : Heap) : KC k 19 c3 σ h (fun x σ h => G x (σ 4) h) = n3 k G (σ 5) h := by kernel_rfl
noncomputable def c4 : Code := cL c2
noncomputable def c5 : Code := cR c4
noncomputable def c6 : Code := cL c5
noncomputable def c7 : Code := cL c6
noncomputable def c8 : Code := cR c7
noncomputable def c9 : Code := cR c8
@[simp] def n9 {R : Type} (k : Nat) (G : KT5 R) (v0 v3 v4 v5 v6 : GV) (h : Heap) : Option R := (kbin .add v6 (.int .i64 1)).bind fun v12 => G .nrm v0 v3 v4 v5 v12 h
theorem n9_eq (G : KT5 R) (σ : GS) (h : Heap) : KC k 19 c9 σ h (fun x σ h => G x (σ 0) (σ 3) (σ 4) (σ 5) (σ 6) h) = n9 k G (σ 0) (σ 3) (σ 4) (σ 5) (σ 6) h := by kernel_rfl
noncomputable def c10 : Code := cL c8
noncomputable def c11 : Code := cL c10
@[simp] def n11 {R : Type} (k : Nat) (G : KT5 R) (v0 v3 v4 v5 v6 : GV) (h : Heap) : Option R := (kloadA 5 h v3).bind fun v14 => (kN NN fn.spec_l4Blank [v14] h).bind fun v15 => (gfill (fun i => some (i * 7, 7)) (zeros [(.int .i64 0), (.int .i64 0), (.int .i64 0), (.bool false), (.bool false), (.bool false), (.int .i64 0)] 1) [(0, v15)]).bind fun c => kbs 1 7 c h fun v16 h => (kapp [(.int .i64 0), (.int .i64 0), (.int .i64 0), (.bool false), (.bool false), (.bool false), (.int .i64 0)] 7 40 v5 v16 h).bind fun r => kr r fun v17 h => G .nrm v0 v3 v4 v17 v6 h
theorem n11_eq (G : KT5 R) (σ : GS) (h : Heap) : KC k 19 c11 σ h (fun x σ h => G x (σ 0) (σ 3) (σ 4) (σ 5) (σ 6) h) = n11 k G (σ 0) (σ 3) (σ 4) (σ 5) (σ 6) h := by kernel_rfl
@[simp] def n10 (G : KT5 R) (v0 v3 v4 v5 v6 : GV) (h : Heap) : Option R := n11 k (fun x v0 v3 v4 v5 v6 h => kb 1 x fun x => G x v0 v3 v4 v5 v6 h) v0 v3 v4 v5 v6 h
theorem n10_eq (G : KT5 R) (σ : GS) (h : Heap) : KC k 19 c10 σ h (fun x σ h => G x (σ 0) (σ 3) (σ 4) (σ 5) (σ 6) h) = n10 k G (σ 0) (σ 3) (σ 4) (σ 5) (σ 6) h := (kblock_eq (a := c11) rfl).trans (n11_eq k (fun x v0 v3 v4 v5 v6 h => kb 1 x fun x => G x v0 v3 v4 v5 v6 h) σ h)
@[simp] def n8 (G : KT5 R) (v0 v3 v4 v5 v6 : GV) (h : Heap) : Option R := n10 k (fun x v0 v3 v4 v5 v6 h => kx x (n9 k G v0 v3 v4 v5 v6 h) (G x v0 v3 v4 v5 v6 h)) v0 v3 v4 v5 v6 h
theorem n8_eq (G : KT5 R) (σ : GS) (h : Heap) : KC k 19 c8 σ h (fun x σ h => G x (σ 0) (σ 3) (σ 4) (σ 5) (σ 6) h) = n8 k G (σ 0) (σ 3) (σ 4) (σ 5) (σ 6) h := (kseq (b := c9) rfl (fun σ h => n9_eq k G σ h)).trans (n10_eq k (fun x v0 v3 v4 v5 v6 h => kx x (n9 k G v0 v3 v4 v5 v6 h) (G x v0 v3 v4 v5 v6 h)) σ h)
noncomputable def c12 : Code := cL c7
@[simp] def n7 (G : KT5 R) (v0 v3 v4 v5 v6 : GV) (h : Heap) : Option R := (kbin .lss v6 v0).bind fun v10 => kcond v10 (n8 k G v0 v3 v4 v5 v6 h) (G (.ext 0) v0 v3 v4 v5 v6 h)
theorem n7_eq (G : KT5 R) (σ : GS) (h : Heap) : KC k 19 c7 σ h (fun x σ h => G x (σ 0) (σ 3) (σ 4) (σ 5) (σ 6) h) = n7 k G (σ 0) (σ 3) (σ 4) (σ 5) (σ 6) h := (kseq (a := c12) (b := c8) rfl (fun σ h => n8_eq k G σ h)).trans (by kernel_rfl)
def l6 {R : Type} (k : Nat) (G : KT2 R) : Nat → GV → GV → GV → GV → GV → Heap → Option R
  | 0, _, _, _, _, _, _ => none
  | r + 1, v0, v3, v4, v5, v6, h => n7 k (fun x v0 v3 v4 v5 v6 h => kx x (l6 k G r v0 v3 v4 v5 v6 h) (G x v4 v5 h)) v0 v3 v4 v5 v6 h
theorem l6_eq {R : Type} (k : Nat) (G : KT2 R) : ∀ (r : Nat) (σ : GS) (h : Heap), kloop (fun σ h K => KC k 19 c7 σ h K) r σ h (fun x σ h => G x (σ 4) (σ 5) h) = l6 k G r (σ 0) (σ 3) (σ 4) (σ 5) (σ 6) h
  | 0, _, _ => rfl
  | r + 1, σ, h => (kloop_eq (fun σ h => l6_eq k G r σ h)).trans (n7_eq k (fun x v0 v3 v4 v5 v6 h => kx x (l6 k G r v0 v3 v4 v5 v6 h) (G x v4 v5 h)) σ h)
@[simp] def n6 (G : KT2 R) (v0 v3 v4 v5 v6 : GV) (h : Heap) : Option R := l6 k G k v0 v3 v4 v5 v6 h
theorem n6_eq (G : KT2 R) (σ : GS) (h : Heap) : KC k 19 c6 σ h (fun x σ h => G x (σ 4) (σ 5) h) = n6 k G (σ 0) (σ 3) (σ 4) (σ 5) (σ 6) h := (kloopc_eq (a := c7) rfl).trans (l6_eq k G k σ h)
@[simp] def n5 (G : KT2 R) (v0 v3 v4 v5 v6 : GV) (h : Heap) : Option R := n6 k (fun x v4 v5 h => kb 0 x fun x => G x v4 v5 h) v0 v3 v4 v5 v6 h
theorem n5_eq (G : KT2 R) (σ : GS) (h : Heap) : KC k 19 c5 σ h (fun x σ h => G x (σ 4) (σ 5) h) = n5 k G (σ 0) (σ 3) (σ 4) (σ 5) (σ 6) h := (kblock_eq (a := c6) rfl).trans (n6_eq k (fun x v4 v5 h => kb 0 x fun x => G x v4 v5 h) σ h)
noncomputable def c13 : Code := cL c4
@[simp] def n4 (G : KT2 R) (v0 v3 v4 v5 : GV) (h : Heap) : Option R := n5 k G v0 v3 v4 v5 (.int .i64 0) h
theorem n4_eq (G : KT2 R) (σ : GS) (h : Heap) : KC k 19 c4 σ h (fun x σ h => G x (σ 4) (σ 5) h) = n4 k G (σ 0) (σ 3) (σ 4) (σ 5) h := (kseq (a := c13) (b := c5) rfl (fun σ h => n5_eq k G σ h)).trans (by kernel_rfl)
@[simp] def n2 (G : KT1 R) (v0 v3 v4 v5 : GV) (h : Heap) : Option R := n4 k (fun x v4 v5 h => kx x (n3 k G v5 h) (G x v4 h)) v0 v3 v4 v5 h
theorem n2_eq (G : KT1 R) (σ : GS) (h : Heap) : KC k 19 c2 σ h (fun x σ h => G x (σ 4) h) = n2 k G (σ 0) (σ 3) (σ 4) (σ 5) h := (kseq (b := c3) rfl (fun σ h => n3_eq k G σ h)).trans (n4_eq k (fun x v4 v5 h => kx x (n3 k G v5 h) (G x v4 h)) σ h)
noncomputable def c14 : Code := cL c1
@[simp] def n1 (G : KT1 R) (v0 v3 v4 : GV) (h : Heap) : Option R := n2 k G v0 v3 v4 .emp h
theorem n1_eq (G : KT1 R) (σ : GS) (h : Heap) : KC k 19 c1 σ h (fun x σ h => G x (σ 4) h) = n1 k G (σ 0) (σ 3) (σ 4) h := (kseq (a := c14) (b := c2) rfl (fun σ h => n2_eq k G σ h)).trans (by kernel_rfl)
noncomputable def c15 : Code := cL c0
@[simp] def n0 (G : KT1 R) (v0 v1 : GV) (h : Heap) : Option R := kbox v1 h fun v3 h => n1 k G v0 v3 .nils h
theorem n0_eq (G : KT1 R) (σ : GS) (h : Heap) : KC k 19 c0 σ h (fun x σ h => G x (σ 4) h) = n0 k G (σ 0) (σ 1) h := (kseq (a := c15) (b := c1) rfl (fun σ h => n1_eq k G σ h)).trans (by kernel_rfl)
def run {R : Type} (k : Nat) (a0 : GV) (a1 : GV) (h : Heap) (fin : GV → Heap → Option R) : Option R := n0 k (fun x v4 h => kend x (fin v4 h)) a0 a1 h
theorem run_eq {R : Type} (k : Nat) (a0 : GV) (a1 : GV) (h : Heap) (fin : GV → Heap → Option R) : kfun PP cfg NN HH k fn.spec_l4Row [a0, a1] h fin = run k a0 a1 h fin := (kfun_eq (nt := 19) (c := c0) (show PP.funcs[fn.spec_l4Row]? = some Try.f230 by kernel_rfl) (by kernel_rfl) (by kernel_rfl) (fun x σ h => by cases x <;> kernel_rfl)).trans (n0_eq k (fun x v4 h => kend x (fin v4 h)) _ h)
theorem gives {k : Nat} {a0 : GV} {a1 : GV} {b : Nat} {q : GV × List (List GV)} (e : run k a0 a1 [] (finO b) = some q) : OO fn.spec_l4Row [a0, a1] b = some q := oω_of ((run_eq k a0 a1 [] (finO b)).trans e)
end S.spec_l4Row
/-! spec_l4Blank -/
namespace S.spec_l4Blank
noncomputable def c0 : Code := bodyOf Try.f267
@[simp] def n0 {R : Type} (k : Nat) (G : KT1 R) (v0 : GV) (h : Heap) : Option R := kbox v0 h fun v1 h => kalloc [(.int .i64 0), (.int .i64 0), (.int .i64 0), (.bool false), (.bool false), (.bool false), (.int .i64 0)] h fun v2 h => (kloadA 5 h v1).bind fun v3 => (gfill (fun i => [(0, 1), (1, 5), (6, 1)][i]?) [(.int .i64 0), (.int .i64 0), (.int .i64 0), (.bool false), (.bool false), (.bool false), (.int .i64 0)] [(0, (.int .i64 32)), (1, v3)]).bind fun c => kagg c h fun v4 h => (kstore 7 h v2 v4).bind fun h => G .ret v2 h
theorem n0_eq (G : KT1 R) (σ : GS) (h : Heap) : KC k 5 c0 σ h (fun x σ h => G x (σ 2) h) = n0 k G (σ 0) h := by kernel_rfl
def run {R : Type} (k : Nat) (a0 : GV) (h : Heap) (fin : GV → Heap → Option R) : Option R := n0 k (fun x v2 h => kend x ((kloadA 7 h v2).bind fun w2 => fin w2 h)) a0 h
theorem run_eq {R : Type} (k : Nat) (a0 : GV) (h : Heap) (fin : GV → Heap → Option R) : kfun PP cfg NN HH k fn.spec_l4Blank [a0] h fin = run k a0 h fin := (kfun_eq (nt := 5) (c := c0) (show PP.funcs[fn.spec_l4Blank]? = some Try.f267 by kernel_rfl) (by kernel_rfl) (by kernel_rfl) (fun x σ h => by cases x <;> kernel_rfl)).trans (n0_eq k (fun x v2 h => kend x ((kloadA 7 h v2).bind fun w2 => fin w2 h)) _ h)
theorem gives {k : Nat} {a0 : GV} {v : GV} (e : run k a0 [] finN = some v) : NN fn.spec_l4Blank [a0] = some v := nω_of (by kernel_rfl) ((run_eq k a0 [] finN).trans e)
end S.spec_l4Blank
end
end Go.Proofs.Ytlbnioapepelnaa.G

namespace Go.Proofs.Ytlbnioapepelnaa.G
open Go.RowKit
set_option linter.unusedVariables false
set_option linter.unusedSimpArgs false
/-- One times a small number. -/
theorem math_bits_Mul64_one : ∀ n : Nat, n ≤ 60 → NN fn.math_bits_Mul64 [.int .u64 1, .int .u64 (n : Int)] = some (.tup [.int .u64 0, .int .u64 (n : Int)])
  | 0, _ => S.math_bits_Mul64.gives (k := 0) (by kernel_rfl)
  | 1, _ => S.math_bits_Mul64.gives (k := 0) (by kernel_rfl)
  | 2, _ => S.math_bits_Mul64.gives (k := 0) (by kernel_rfl)
  | 3, _ => S.math_bits_Mul64.gives (k := 0) (by kernel_rfl)
  | 4, _ => S.math_bits_Mul64.gives (k := 0) (by kernel_rfl)
  | 5, _ => S.math_bits_Mul64.gives (k := 0) (by kernel_rfl)
  | 6, _ => S.math_bits_Mul64.gives (k := 0) (by kernel_rfl)
  | 7, _ => S.math_bits_Mul64.gives (k := 0) (by kernel_rfl)
  | 8, _ => S.math_bits_Mul64.gives (k := 0) (by kernel_rfl)
  | 9, _ => S.math_bits_Mul64.gives (k := 0) (by kernel_rfl)
  | 10, _ => S.math_bits_Mul64.gives (k := 0) (by kernel_rfl)
  | 11, _ => S.math_bits_Mul64.gives (k := 0) (by kernel_rfl)
  | 12, _ => S.math_bits_Mul64.gives (k := 0) (by kernel_rfl)
  | 13, _ => S.math_bits_Mul64.gives (k := 0) (by kernel_rfl)
  | 14, _ => S.math_bits_Mul64.gives (k := 0) (by kernel_rfl)
  | 15, _ => S.math_bits_Mul64.gives (k := 0) (by kernel_rfl)
  | 16, _ => S.math_bits_Mul64.gives (k := 0) (by kernel_rfl)
  | 17, _ => S.math_bits_Mul64.gives (k := 0) (by kernel_rfl)
  | 18, _ => S.math_bits_Mul64.gives (k := 0) (by kernel_rfl)
  | 19, _ => S.math_bits_Mul64.gives (k := 0) (by kernel_rfl)
  | 20, _ => S.math_bits_Mul64.gives (k := 0) (by kernel_rfl)
  | 21, _ => S.math_bits_Mul64.gives (k := 0) (by kernel_rfl)
  | 22, _ => S.math_bits_Mul64.gives (k := 0) (by kernel_rfl)
  | 23, _ => S.math_bits_Mul64.gives (k := 0) (by kernel_rfl)
  | 24, _ => S.math_bits_Mul64.gives (k := 0) (by kernel_rfl)
  | 25, _ => S.math_bits_Mul64.gives (k := 0) (by kernel_rfl)
  | 26, _ => S.math_bits_Mul64.gives (k := 0) (by kernel_rfl)
  | 27, _ => S.math_bits_Mul64.gives (k := 0) (by kernel_rfl)
  | 28, _ => S.math_bits_Mul64.gives (k := 0) (by kernel_rfl)
  | 29, _ => S.math_bits_Mul64.gives (k := 0) (by kernel_rfl)
  | 30, _ => S.math_bits_Mul64.gives (k := 0) (by kernel_rfl)
  | 31, _ => S.math_bits_Mul64.gives (k := 0) (by kernel_rfl)
  | 32, _ => S.math_bits_Mul64.gives (k := 0) (by kernel_rfl)
  | 33, _ => S.math_bits_Mul64.gives (k := 0) (by kernel_rfl)
  | 34, _ => S.math_bits_Mul64.gives (k := 0) (by kernel_rfl)
  | 35, _ => S.math_bits_Mul64.gives (k := 0) (by kernel_rfl)
  | 36, _ => S.math_bits_Mul64.gives (k := 0) (by kernel_rfl)
  | 37, _ => S.math_bits_Mul64.gives (k := 0) (by kernel_rfl)
  | 38, _ => S.math_bits_Mul64.gives (k := 0) (by kernel_rfl)
  | 39, _ => S.math_bits_Mul64.gives (k := 0) (by kernel_rfl)
  | 40, _ => S.math_bits_Mul64.gives (k := 0) (by kernel_rfl)
  | 41, _ => S.math_bits_Mul64.gives (k := 0) (by kernel_rfl)
  | 42, _ => S.math_bits_Mul64.gives (k := 0) (by kernel_rfl)
  | 43, _ => S.math_bits_Mul64.gives (k := 0) (by kernel_rfl)
  | 44, _ => S.math_bits_Mul64.gives (k := 0) (by kernel_rfl)
  | 45, _ => S.math_bits_Mul64.gives (k := 0) (by kernel_rfl)
  | 46, _ => S.math_bits_Mul64.gives (k := 0) (by kernel_rfl)
  | 47, _ => S.math_bits_Mul64.gives (k := 0) (by kernel_rfl)
  | 48, _ => S.math_bits_Mul64.gives (k := 0) (by kernel_rfl)
  | 49, _ => S.math_bits_Mul64.gives (k := 0) (by kernel_rfl)
  | 50, _ => S.math_bits_Mul64.gives (k := 0) (by kernel_rfl)
  | 51, _ => S.math_bits_Mul64.gives (k := 0) (by kernel_rfl)
  | 52, _ => S.math_bits_Mul64.gives (k := 0) (by kernel_rfl)
  | 53, _ => S.math_bits_Mul64.gives (k := 0) (by kernel_rfl)
  | 54, _ => S.math_bits_Mul64.gives (k := 0) (by kernel_rfl)
  | 55, _ => S.math_bits_Mul64.gives (k := 0) (by kernel_rfl)
  | 56, _ => S.math_bits_Mul64.gives (k := 0) (by kernel_rfl)
  | 57, _ => S.math_bits_Mul64.gives (k := 0) (by kernel_rfl)
  | 58, _ => S.math_bits_Mul64.gives (k := 0) (by kernel_rfl)
  | 59, _ => S.math_bits_Mul64.gives (k := 0) (by kernel_rfl)
  | 60, _ => S.math_bits_Mul64.gives (k := 0) (by kernel_rfl)
  | n + 61, h => absurd h (by omega)
theorem math_bits_Mul_one (n : Nat) (hn : n ≤ 60) : NN fn.math_bits_Mul [.int .u64 1, .int .u64 (n : Int)] = some (.tup [.int .u64 0, .int .u64 (n : Int)]) := by
  apply S.math_bits_Mul.gives (k := 0)
  simp [S.math_bits_Mul.run, math_bits_Mul64_one n hn]
  exact finN_of (frz_tup (.cons frz_int (.cons frz_int .nil)))
abbrev zCell0 : List GV := [.int .i64 0, .int .i64 0, .int .i64 0, .bool false, .bool false, .bool false, .int .i64 0]
theorem fill_more {α : Type} {mk : α → List GV} {z : List GV} {es : Nat} (hm : ∀ a, (mk a).length = es) (hz : z.length = es) (x : α) (n m k : Nat) (h : m + k ≤ n) : splice (fill mk z (List.replicate n x) m) (m * es) ((List.replicate k x).flatMap mk) = fill mk z (List.replicate n x) (m + k) := by
  have e1 : (List.replicate n x).take m = List.replicate m x := by rw [List.take_replicate]; congr 1; omega
  have e2 : (List.replicate n x).take (m + k) = List.replicate m x ++ List.replicate k x := by rw [List.take_replicate, List.replicate_append_replicate]; congr 1; omega
  have l1 : ((List.replicate m x).flatMap mk).length = m * es := by rw [len_flat hm, List.length_replicate]
  have l2 : ((List.replicate k x).flatMap mk).length = k * es := by rw [len_flat hm, List.length_replicate]
  unfold fill splice
  rw [e1, e2, List.length_replicate, List.take_append_of_le_length (by omega), List.take_of_length_le (by omega), l2, ← l1, ← List.drop_drop, List.drop_left, zeros_drop hz _ _ (by omega), List.flatMap_append]
  congr 2
  omega
theorem fill_head {α : Type} {mk : α → List GV} {z : List GV} {es : Nat} (hm : ∀ a, (mk a).length = es) (x : α) (n m : Nat) (h : m ≤ n) : (fill mk z (List.replicate n x) m).take (m * es) = (List.replicate m x).flatMap mk := by
  have e1 : (List.replicate n x).take m = List.replicate m x := by rw [List.take_replicate]; congr 1; omega
  have l1 : ((List.replicate m x).flatMap mk).length = m * es := by rw [len_flat hm, List.length_replicate]
  unfold fill
  rw [e1, List.take_append_of_le_length (by omega), List.take_of_length_le (by omega)]
theorem take_rep {α : Type} {mk : α → List GV} {es : Nat} (hm : ∀ a, (mk a).length = es) (x : α) (m k : Nat) (h : k ≤ m) : ((List.replicate m x).flatMap mk).take (k * es) = (List.replicate k x).flatMap mk := by
  have e : List.replicate m x = List.replicate k x ++ List.replicate (m - k) x := by rw [List.replicate_append_replicate]; congr 1; omega
  have l1 : ((List.replicate k x).flatMap mk).length = k * es := by rw [len_flat hm, List.length_replicate]
  rw [e, List.flatMap_append, List.take_append_of_le_length (by omega), List.take_of_length_le (by omega)]
theorem cells_all (x : CellT) (k : Nat) : ((List.replicate k x).flatMap (mCell true)).all GV.isCell = true := all_flat (fun _ => rfl) _
theorem repeat_loop {Q : Type} (x : CellT) (n : Nat) (hn : n ≤ 60) : ∀ r m, n - m < r → 1 ≤ m → m ≤ n → ∀ (k : Nat) (v4 : GV) (G : GX → GV → GV → Heap → Option Q), S.slices_Repeat_impl_Cell.l9 k G r v4 (.sl 0 0 n n 7) (.int .i64 (m : Int)) [fill (mCell true) zCell0 (List.replicate n x) m] = G (.ext 0) v4 (.sl 0 0 n n 7) [(List.replicate n x).flatMap (mCell true)] := by
  intro r
  induction r with
  | zero => intro m h; omega
  | succ r ih =>
    intro m hr h1 hm k v4 G
    have fl : (fill (mCell true) zCell0 (List.replicate n x) m).length = n * 7 := by rw [fill_len (es := 7) (fun _ => rfl) rfl _ _ (by rw [List.length_replicate]; exact hm), List.length_replicate]
    by_cases h2 : m < n
    · have g1 : kbin .lss (.int .i64 (m : Int)) (.int .i64 (n : Int)) = some (.bool true) := by rw [klt, decide_eq_true h2]
      have s1 : ksl 7 (.sl 0 0 n n 7) (some (.int .i64 (m : Int))) none none = some (.sl 0 (m * 7) (n - m) (n - m) 7) := by
        have q : (m : Int) ≤ n := by omega
        simp [ksl, kslice, gslice, gopt, gint, q]
      have s2 : ksl 7 (.sl 0 0 n n 7) none (some (.int .i64 (m : Int))) none = some (.sl 0 0 m n 7) := by
        have q : (m : Int) ≤ n := by omega
        simp [ksl, kslice, gslice, gopt, gint, q]
      have kc : kcopy 7 (.sl 0 (m * 7) (n - m) (n - m) 7) (.sl 0 0 m n 7) [fill (mCell true) zCell0 (List.replicate n x) m] = some (.int .i64 ((min m (n - m) : Nat) : Int), [fill (mCell true) zCell0 (List.replicate n x) (m + min m (n - m))]) := by
        have hg : gcells [fill (mCell true) zCell0 (List.replicate n x) m] 7 (.sl 0 0 m n 7) = some (m, (List.replicate m x).flatMap (mCell true), [0]) := by
          have := fill_head (mk := mCell true) (z := zCell0) (es := 7) (fun _ => rfl) x n m hm
          unfold gcells
          simp [fl, hm, this]
        unfold kcopy
        rw [hg]
        simp only [Option.bind_some]
        rw [if_pos (cells_all x m)]
        have e1 : m * 7 + (n - m) * 7 = n * 7 := by rw [← Nat.add_mul]; congr 1; omega
        have e2 := take_rep (mk := mCell true) (es := 7) (fun _ => rfl) x m (min m (n - m)) (Nat.min_le_left _ _)
        have e3 := fill_more (mk := mCell true) (z := zCell0) (es := 7) (fun _ => rfl) rfl x n m (min m (n - m)) (by omega)
        simp only [cellsAt_if, List.getElem?_cons_zero, Option.bind_some, e1, fl, if_true, Nat.le_refl, and_self, e2, e3, List.set_cons_zero]
      have ka : kbin .add (.int .i64 (m : Int)) (.int .i64 ((min m (n - m) : Nat) : Int)) = some (.int .i64 ((m + min m (n - m) : Nat) : Int)) := by
        rw [kbin_add, wrap_id (by omega) (by omega)]; simp
      rw [S.slices_Repeat_impl_Cell.l9]
      simp [g1, s1, s2, kc, ka, -kbin_lss, -kbin_add, -Int.natCast_add]
      exact ih (m + min m (n - m)) (by omega) (by omega) (by omega) k v4 G
    · have : m = n := by omega
      subst this
      have g1 : kbin .lss (.int .i64 (m : Int)) (.int .i64 (m : Int)) = some (.bool false) := by rw [klt, decide_eq_false (by omega)]
      have e : fill (mCell true) zCell0 (List.replicate m x) m = (List.replicate m x).flatMap (mCell true) := by
        have := fill_all (mk := mCell true) (z := zCell0) (xs := List.replicate m x)
        rwa [List.length_replicate] at this
      rw [S.slices_Repeat_impl_Cell.l9]
      simp [g1, e, -kbin_lss]
theorem rNewS {α : Type} {es : Nat} {mk : α → List GV} {xs : List α} {H : Heap} {b : Nat} (h : H[b]? = some (xs.flatMap mk)) : RSl es (RFl mk) H [.sl b 0 xs.length xs.length es] xs [b] := by
  refine Or.inr ⟨b, xs.map mk, xs.map fun _ => [], rfl, by rw [h, List.flatMap_def], ?_, ?_⟩
  · clear h
    induction xs with
    | nil => exact .nil
    | cons x xs ih => exact .cons ⟨rfl, rfl⟩ ih
  · have : (xs.map fun _ => ([] : List Nat)).flatten = [] := by
      clear h
      induction xs with
      | nil => rfl
      | cons x xs ih => rw [List.map_cons, List.flatten_cons, ih]; rfl
    rw [this]
theorem slices_Repeat_spec (x : CellT) (n : Nat) (h1 : 1 ≤ n) (hn : n ≤ 60) (b : Nat) : ∃ v bl, OO fn.slices_Repeat_impl_Cell [fzl true 7 (mCell true) [x], .int .i64 (n : Int)] b = some (v, bl) ∧ ∀ H T, H.length = b → rCellS (H ++ bl ++ T) [v] (List.replicate n x) (List.range' b bl.length) := by
  have hr : rCellS [(List.replicate n x).flatMap (mCell true)] [.sl 0 0 n n 7] (List.replicate n x) [0] := by
    have := rNewS (es := 7) (mk := mCell true) (xs := List.replicate n x) (H := [(List.replicate n x).flatMap (mCell true)]) (b := 0) rfl
    rwa [List.length_replicate] at this
  obtain ⟨v, bl, f1, f2⟩ := goodCellS.fin (by omega) hr (by simp) b
  refine ⟨v, bl, S.slices_Repeat_impl_Cell.gives (k := 100) ?_, f2⟩
  have c1 : kconvI .u64 (.int .i64 1) = some (.int .u64 1) := rfl
  have c2 : kconvI .u64 (.int .i64 (n : Int)) = some (.int .u64 (n : Int)) := by
    rw [kconvI_int]; congr 2; simp [IntKind.wrap, IntKind.bits, IntKind.signed]; omega
  have c3 : kconvI .i64 (.int .u64 (n : Int)) = some (.int .i64 (n : Int)) := by rw [kconvI_int, wrap_id (by omega) (by omega)]
  have g0 : kbin .lss (.int .i64 (n : Int)) (.int .i64 0) = some (.bool false) := by rw [kbin_lss, decide_eq_false (by omega)]
  have g1 : kbin .gtr (.int .u64 (n : Int)) (.int .u64 9223372036854775807) = some (.bool false) := by rw [kbin_gtr, decide_eq_false (by omega)]
  have hk := kmake_eq (z := zCell0) (es := 7) (b := 40) (n := n) (h := []) (by omega) (by omega) rfl
  have fz0 : fill (mCell true) zCell0 (List.replicate n x) 0 = zeros zCell0 n := by rw [fill_zero, List.length_replicate]
  have kc : kcopy 7 (.sl 0 0 n n 7) (fzl true 7 (mCell true) [x]) [zeros zCell0 n] = some (.int .i64 1, [fill (mCell true) zCell0 (List.replicate n x) 1]) := by
    have hg : gcells [zeros zCell0 n] 7 (fzl true 7 (mCell true) [x]) = some (1, [x].flatMap (mCell true), []) := gcells_fzl (mk := mCell true) (es := 7) (fun _ => rfl)
    have e3 := fill_more (mk := mCell true) (z := zCell0) (es := 7) (fun _ => rfl) rfl x n 0 1 (by omega)
    rw [fz0] at e3
    simp only [Nat.zero_mul, Nat.zero_add] at e3
    unfold kcopy
    rw [hg]
    simp only [Option.bind_some]
    rw [if_pos (show ([x].flatMap (mCell true)).all GV.isCell = true from rfl)]
    have e4 : min 1 n = 1 := by omega
    have hz : (zeros zCell0 n).length = n * 7 := by rw [zeros_len']; rfl
    simp only [cellsAt_if, List.getElem?_cons_zero, Option.bind_some, Nat.zero_add, hz, if_true, Nat.le_refl, and_self, e4, List.set_cons_zero]
    rw [List.take_of_length_le (by show 7 ≤ 1 * 7; omega)]
    exact congrArg (fun x => some (GV.int .i64 1, [x])) e3
  have lp := repeat_loop (Q := GV × List (List GV)) x n hn 100 1 (by omega) (by omega) h1 100
  simp only [show ((1 : Nat) : Int) = 1 from rfl] at lp
  have g2 : kbin .gtr (.int .u64 0) (.int .u64 0) = some (.bool false) := by rw [kbin_gtr]; rfl
  simp [S.slices_Repeat_impl_Cell.run, g0, g2, c1, c2, math_bits_Mul_one n hn, g1, c3, hk, kc, lp, f1, -kbin_lss, -kbin_gtr, -kconvI_int]
theorem bors_one1 {α : Type} {es d : Nat} {mk : α → List GV} {E : Rel α} (hE : Good es d mk E) (hd : d + 1 ≤ 9) {H : Heap} {v : GV} {x : List α} {R : List Nat} (he : RSl es E H [v] x R) {n : Int} : bors H [v, .int .i64 n] = some [fzl true es mk x, .int .i64 n] := by
  obtain ⟨g, h1, h2⟩ := (RSl.good hE).lend1 hd he
  injection h2 with h2
  rw [bors_cons, h1, ← h2]; rfl
theorem gCell : Good 7 1 (mCell true) (RFl (mCell true)) := RFl.good (es := 7) (mk := mCell true) (fun _ => rfl) (fun _ => rfl)
abbrev styC (s : StyT) : List GV := [.int .i64 s.1, .int .i64 s.2.1, .bool s.2.2.1, .bool s.2.2.2.1, .bool s.2.2.2.2]
theorem blank_frz (s : StyT) (h : Heap) : finN (.agg (mCell true (blankS s))) h = some (.agg (mCell true (blankS s))) := finN_of (frz_agg (.cons frz_int (.cons frz_int (.cons frz_int (.cons frz_bool (.cons frz_bool (.cons frz_bool (.cons frz_int .nil))))))))
theorem impl_blank_spec (s : StyT) : NN fn.impl_blank [styG s] = some (.agg (mCell true (blankS s))) := by
  apply S.impl_blank.gives (k := 0)
  have := blank_frz s
  simp only [mCell, blankS] at this
  simp [S.impl_blank.run, gfill, this, blankS]
theorem spec_l4Blank_spec (s : StyT) : NN fn.spec_l4Blank [styG s] = some (.agg (mCell true (blankS s))) := by
  apply S.spec_l4Blank.gives (k := 0)
  have := blank_frz s
  simp only [mCell, blankS] at this
  simp [S.spec_l4Blank.run, gfill, this, blankS]
theorem impl_Blank_spec (s : StyT) (hs : styB s = true) (n : Nat) (h1 : 1 ≤ n) (hn : n ≤ 60) (b : Nat) : ∃ v bl, OO fn.impl_Blank [.int .i64 (n : Int), styG s] b = some (v, bl) ∧ ∀ H T, H.length = b → rCellS (H ++ bl ++ T) [v] (List.replicate n (blankS s)) (List.range' b bl.length) := by
  obtain ⟨Z, hZ⟩ : ∃ Z, styC s = Z := ⟨_, rfl⟩
  have hZL : Z.length = 5 := by rw [← hZ]; rfl
  have ks := k_sty s
  have kb := impl_blank_spec s
  have bZ : ∀ H : Heap, bors H [.agg Z] = some [.agg Z] := fun H => by rw [← hZ]; simp
  rw [show styG s = .agg Z by rw [← hZ]] at ks kb ⊢
  obtain ⟨H0, hH0⟩ : ∃ H0 : Heap, [Z, mCell true (blankS s)] = H0 := ⟨_, rfl⟩
  have hr : rCellS H0 [.sl 1 0 1 1 7] [blankS s] [1] := rNewS (es := 7) (mk := mCell true) (xs := [blankS s]) (H := H0) (b := 1) (by rw [← hH0]; rfl)
  have hbors : bors H0 [.sl 1 0 1 1 7, .int .i64 (n : Int)] = some [fzl true 7 (mCell true) [blankS s], .int .i64 (n : Int)] := bors_one1 gCell (by omega) hr
  obtain ⟨v, bl, e1, e2⟩ := slices_Repeat_spec (blankS s) n h1 hn H0.length
  have t1 : kF false HH fn.slices_Repeat_impl_Cell [.sl 1 0 1 1 7, .int .i64 (n : Int)] H0 = some (v, H0 ++ bl) := by
    rw [kF_OO, hbors]; simp [e1]
  have r1 : rCellS (H0 ++ bl) [v] (List.replicate n (blankS s)) (List.range' H0.length bl.length) := by simpa using e2 H0 [] rfl
  obtain ⟨v', bl', f1, f2⟩ := goodCellS.fin (by omega) r1 List.nodup_range' b
  refine ⟨v', bl', S.impl_Blank.gives (k := 0) ?_, f2⟩
  have hb : ∀ {Q : Type} (K : GV → Heap → Option Q), kbox (.agg Z) [] K = K (.ptr 0 0 5) [Z] := fun K => by rw [kbox_agg, hZL]; rfl
  have a0 := kloadA_at (n := 5) (H := [Z]) (p := 0) (c := Z) rfl hZL
  have hi := k_in (n : Int) 1 60 [Z]
  rw [inB_iff.2 (by omega)] at hi
  have ks' := ks [Z]
  rw [hs] at ks'
  have kb' : kN NN fn.impl_blank [.agg Z] [Z] = some (.agg (mCell true (blankS s))) := kN_at (bZ _) kb
  have gf : gfill (fun i => some (i * 7, 7)) (zeros zCell0 1) [(0, .agg (mCell true (blankS s)))] = some (mCell true (blankS s)) := by simp [gfill, zeros]
  have hk : ∀ {Q : Type} (K : GV → Heap → Option Q), kbs 1 7 (mCell true (blankS s)) [Z] K = K (.sl 1 0 1 1 7) H0 := fun K => by rw [← hH0]; rfl
  unfold S.impl_Blank.run S.impl_Blank.n0
  rw [hb]
  obtain ⟨B, hB⟩ : ∃ B, mCell true (blankS s) = B := ⟨_, rfl⟩
  rw [hB] at kb' gf
  simp only [hB] at hk
  simp [hi, a0, ks', kb', gf, hk, t1, f1, -kN_eq, -kF_OO, -kloadA_ptr]
/-- A row of blanks, put together one by one. -/
theorem spec_l4Row_spec (s : StyT) (n : Nat) (hn : n ≤ 60) (b : Nat) : ∃ v bl, OO fn.spec_l4Row [.int .i64 (n : Int), styG s] b = some (v, bl) ∧ ∀ H T, H.length = b → rCellS (H ++ bl ++ T) [v] (List.replicate n (blankS s)) (List.range' b bl.length) := by
  obtain ⟨S0, hS0⟩ : ∃ S0 : List GV, [.int .i64 s.1, .int .i64 s.2.1, .bool s.2.2.1, .bool s.2.2.2.1, .bool s.2.2.2.2] = S0 := ⟨_, rfl⟩
  have hSL : S0.length = 5 := by rw [← hS0]; rfl
  have key := loop_inv (n := n) (T := GV × Heap) (Inv := fun j st => st.2[0]? = some S0 ∧ ∃ R, rCellS st.2 [st.1] (List.replicate j (blankS s)) R ∧ R.Nodup ∧ ∀ i ∈ R, 1 ≤ i) (f := fun r j st => fun (G : GX → GV → GV → Heap → Option (GV × List (List GV))) => S.spec_l4Row.l6 61 G r (.int .i64 (n : Int)) (.ptr 0 0 5) .nils st.1 (.int .i64 (j : Int)) st.2) (A := fun st => fun G => G (.ext 0) .nils st.1 st.2) (s := (.emp, [S0])) ?_ ?_ ⟨rfl, [], Or.inl ⟨rfl, rfl, Or.inl rfl⟩, List.nodup_nil, fun i hi => (by cases hi)⟩ (m := 61) (by omega)
  · obtain ⟨⟨v, H⟩, a1, I0, R, hr, nd, hlo⟩ := key
    obtain ⟨v', bl', f1, f2⟩ := goodCellS.fin (by omega) hr nd b
    refine ⟨v', bl', S.spec_l4Row.gives (k := 61) ?_, f2⟩
    have a1' := fun G => congrFun a1 G
    simp only [show ((0 : Nat) : Int) = 0 from rfl] at a1'
    have hb : ∀ {Q : Type} (K : GV → Heap → Option Q), kbox (styG s) [] K = K (.ptr 0 0 5) [S0] := fun K => by rw [kbox_agg, ← hS0]; rfl
    simp [S.spec_l4Row.run, hb, a1', f1, -kbox_agg]
  · rintro j r ⟨v, H⟩ hj ⟨I0, R, hr, nd, hlo⟩
    simp only at I0 hr
    have kj := kadd1 (n := j) (by omega)
    have g1 : kbin .lss (.int .i64 (j : Int)) (.int .i64 (n : Int)) = some (.bool true) := by rw [klt, decide_eq_true hj]
    have lS := kloadA_at (n := 5) I0 hSL
    have hx : RFl (mCell true) (H ++ [mCell true (blankS s)]) (mCell true (blankS s)) (blankS s) [] := ⟨rfl, rfl⟩
    have hpl := (List.getElem?_eq_some_iff.1 I0).1
    obtain ⟨v', H4, R', a1, a2, a3, a4, a5, a6, a7⟩ := app_sl gCell (by omega) (z := zCell0) (b := 40) rfl (by omega) (H := H ++ [mCell true (blankS s)]) (goodCellS.grow hr) nd (by rw [List.length_replicate]; omega) hx List.nodup_nil (fun i hi => (by cases hi)) (q := H.length) (by simp)
    rw [← List.replicate_succ'] at a2
    refine ⟨(v', H4), funext fun G => ?_, a5.blk ((Fr.app (R := []) (t := [mCell true (blankS s)])).blk I0 no_nil) (fun h => by have := hlo 0 h; omega), R', a2, a3, fun i hi => ?_⟩
    · have sS : kN NN fn.spec_l4Blank [.agg S0] H = some (.agg (mCell true (blankS s))) := by rw [← hS0]; exact kN_at (xs := [styG s]) (by simp) (spec_l4Blank_spec s)
      have gf : gfill (fun i => some (i * 7, 7)) (zeros zCell0 1) [(0, .agg (mCell true (blankS s)))] = some (mCell true (blankS s)) := by simp [gfill, zeros]
      simp only [S.spec_l4Row.l6]
      simp [g1, lS, sS, gf, kbs_at, a1, kj, -kN_eq, -kloadA_ptr, -kbin_lss, -kbin_add, -Int.natCast_add]
    · rcases a4 i hi with h | h | h
      · exact hlo i h
      · cases h
      · rw [h]; simp
  · rintro r ⟨v, H⟩ _
    funext G
    have g1 : kbin .lss (.int .i64 (n : Int)) (.int .i64 (n : Int)) = some (.bool false) := by rw [klt, decide_eq_false (by omega)]
    simp only [S.spec_l4Row.l6]
    simp [g1, -kbin_lss]
end Go.Proofs.Ytlbnioapepelnaa.G

namespace Go.Proofs.Ytlbnioapepelnaa.G
open Go.RowKit
set_option linter.unusedVariables false
set_option linter.unusedSimpArgs false
theorem RFl.frz {α : Type} {mk : α → List GV} (hp : ∀ x, (mk x).all Pl = true) {d : Nat} {h : Heap} {c : List GV} {x : α} {R : List Nat} (he : RFl mk h c x R) : Frz (d + 1) h c (mk x) := by
  obtain ⟨rfl, rfl⟩ := he
  have := hp x
  generalize mk x = l at this
  induction l with
  | nil => exact .nil
  | cons g l ih =>
    rw [List.all_cons, Bool.and_eq_true] at this
    refine .cons (r := []) ?_ (ih this.2)
    cases g <;> first | rfl | cases this.1
theorem RSl.frz {α : Type} {es d : Nat} {mk mk' : α → List GV} {E : Rel α} (hG : Good es d mk E) {n : Nat} {h : Heap} (hE : ∀ c x R, E h c x R → Frz n h c (mk' x)) {v : GV} {xs : List α} {R : List Nat} (he : RSl es E h [v] xs R) : Frz (n + 1) h [v] [fzl false es mk' xs] := by
  rcases he with ⟨rfl, rfl, hc⟩ | ⟨b, css, Rs, hv, hb, ha, rfl⟩
  · rcases hc with hc | hc <;> (injection hc with hc; subst hc; exact .cons (r := []) rfl .nil)
  · injection hv with hv
    subst hv
    obtain ⟨fl, fe⟩ := All3.flen (fun h => hG.len h) ha
    have hf : Frz n h css.flatten (xs.flatMap mk') := by
      clear hb fl fe
      induction ha with
      | nil => exact .nil
      | cons a _ ih => exact .append (hE _ _ _ a) ih
    obtain ⟨ys, h1, h2⟩ := hf
    refine .cons (r := []) ?_ .nil
    simp only [Go.Proofs.Ytlbnioapepelnaa.G.frz, Option.bind_eq_bind, cellsAt_if, hb, Option.bind_some, Nat.zero_add, fl, if_true, List.drop_zero]
    rw [List.take_of_length_le (by omega), h1]
    simp only [Option.bind_some, Nat.le_refl, if_true]
    cases xs with
    | nil => rfl
    | cons x xs => simp [fzl, h2]
theorem RSl.frz' {α : Type} {es d : Nat} {mk mk' : α → List GV} {E : Rel α} (hG : Good es d mk E) {n : Nat} {h : Heap} (hE : ∀ c x R, E h c x R → Frz n h c (mk' x)) : ∀ c xs R, RSl es E h c xs R → Frz (n + 1) h c [fzl false es mk' xs] := fun c xs R he => by
  obtain ⟨v, rfl⟩ := List.length_eq_one_iff.1 ((RSl.good hG).len he)
  exact RSl.frz hG hE he
theorem RSeq.frz {α β : Type} {E : Rel α} {F : Rel β} {n : Nat} {h : Heap} {mk1 : α → List GV} {mk2 : β → List GV} (hE : ∀ c x R, E h c x R → Frz n h c (mk1 x)) (hF : ∀ c x R, F h c x R → Frz n h c (mk2 x)) : ∀ c x R, RSeq E F h c x R → Frz n h c (mk1 x.1 ++ mk2 x.2) := by
  rintro c x R ⟨c1, c2, R1, R2, rfl, rfl, h1, h2⟩
  exact .append (hE _ _ _ h1) (hF _ _ _ h2)
theorem flat_frz {α : Type} {mk : α → List GV} (hp : ∀ x, (mk x).all Pl = true) {d : Nat} {h : Heap} : ∀ c x R, RFl mk h c x R → Frz (d + 1) h c (mk x) := fun c x R he => RFl.frz hp he
/-! Which blocks data lead to. -/
def Cl {α : Type} (d : Nat) (E : Rel α) : Prop := ∀ {h : Heap} {c : List GV} {x : α} {R : List Nat}, E h c x R → ∀ D, kcll (kcl (D + d) h) c = some R
theorem kcll_pl {d : Nat} {h : Heap} : ∀ {l : List GV}, l.all Pl = true → kcll (kcl d h) l = some []
  | [], _ => rfl
  | g :: l, hl => by
    rw [List.all_cons, Bool.and_eq_true] at hl
    have e : kcl d h g = some [] := by
      cases g <;> first | (cases d <;> rfl) | cases hl.1
    unfold kcll
    rw [e, kcll_pl hl.2]; rfl
theorem kcll_app {f : GV → Option (List Nat)} : ∀ {l m : List GV} {a b : List Nat}, kcll f l = some a → kcll f m = some b → kcll f (l ++ m) = some (a ++ b)
  | [], m, a, b, h1, h2 => by cases h1; exact h2
  | g :: l, m, a, b, h1, h2 => by
    unfold kcll at h1
    obtain ⟨p, e1, h1⟩ := Option.bind_eq_some_iff.1 h1
    obtain ⟨q, e2, h1⟩ := Option.bind_eq_some_iff.1 h1
    cases h1
    rw [List.cons_append]
    unfold kcll
    rw [e1, kcll_app e2 h2]
    simp
theorem RFl.cl {α : Type} {mk : α → List GV} (hp : ∀ x, (mk x).all Pl = true) {d : Nat} : Cl d (RFl mk) := by
  rintro h c x R ⟨rfl, rfl⟩ D
  exact kcll_pl (hp x)
theorem RSeq.cl {α β : Type} {d : Nat} {E : Rel α} {F : Rel β} (hE : Cl d E) (hF : Cl d F) : Cl d (RSeq E F) := by
  rintro h c x R ⟨c1, c2, R1, R2, rfl, rfl, h1, h2⟩ D
  exact kcll_app (hE h1 D) (hF h2 D)
theorem RSl.cl {α : Type} {es d : Nat} {E : Rel α} (hE : Cl d E) : Cl (d + 1) (RSl es E) := by
  rintro h c xs R (⟨rfl, rfl, hc⟩ | ⟨b, css, Rs, rfl, hb, ha, rfl⟩) D
  · rcases hc with rfl | rfl <;> rfl
  · have key : ∀ {css : List (List GV)} {xs : List α} {Rs : List (List Nat)}, All3 (E h) css xs Rs → kcll (kcl (D + d) h) css.flatten = some Rs.flatten := by
      intro css xs Rs ha
      induction ha with
      | nil => rfl
      | cons a _ ih => rw [List.flatten_cons, List.flatten_cons]; exact kcll_app (hE a D) ih
    have e : kcl (D + (d + 1)) h (.sl b 0 xs.length xs.length es) = some (b :: Rs.flatten) := by
      rw [← Nat.add_assoc]
      simp only [kcl, hb, key ha, Option.bind_some]
    simp only [kcll, e, Option.bind_some]
    simp
theorem Cl.mono {α : Type} {d d' : Nat} {E : Rel α} (hE : Cl d E) (hd : d ≤ d') : Cl d' E := fun {h c x R} he D => by
  have := hE he (D + (d' - d))
  rwa [show D + (d' - d) + d = D + d' by omega] at this
/-- Arguments of a call in the caller's heap. -/
theorem Cl.agg {α : Type} {d : Nat} {E : Rel α} (hE : Cl d E) (hd : d ≤ 8) {h : Heap} {c : List GV} {x : α} {R : List Nat} (he : E h c x R) : kcl 9 h (.agg c) = some R := by
  have := hE he (8 - d)
  rw [show 8 - d + d = 8 by omega] at this
  exact this
end Go.Proofs.Ytlbnioapepelnaa.G

namespace Go.Proofs.Ytlbnioapepelnaa.G
open Go.RowKit
set_option linter.unusedVariables false
set_option linter.unusedSimpArgs false
abbrev gridC (c : Int) (v : GV) : List GV := [.int .i64 c, v]
theorem rGrid_frz {d : Nat} {h : Heap} : ∀ c x R, rGrid h c x R → Frz (d + 3) h c (mGrid false x) :=
  RSeq.frz (flat_frz (fun _ => rfl)) (RSl.frz' goodCellS (RSl.frz' gCell (fun c x R he => RFl.frz (mk := mCell false) (fun _ => rfl) he)))
theorem rGrid_of {H : Heap} {c : List GV} {g : GridT} {R : List Nat} (h : rGrid H c g R) : ∃ v, c = gridC g.1 v ∧ rCellSS H [v] g.2 R := by
  obtain ⟨c1, c2, R1, R2, rfl, rfl, ⟨rfl, rfl⟩, h2⟩ := h
  obtain ⟨v, rfl⟩ := List.length_eq_one_iff.1 (goodCellSS.len h2)
  exact ⟨v, rfl, h2⟩
end Go.Proofs.Ytlbnioapepelnaa.G

namespace Go.Proofs.Ytlbnioapepelnaa.G
open Go.RowKit
set_option linter.unusedVariables false
set_option maxRecDepth 100000
noncomputable section
variable {R : Type} (k : Nat)
/-! impl_NewGrid -/
namespace S.impl_NewGrid
noncomputable def c0 : Code := bodyOf Try.f215
noncomputable def c1 : Code := cR c0
noncomputable def c2 : Code := cR c1
noncomputable def c3 : Code := cR c2
noncomputable def c4 : Code := cR c3
@[simp] def n4 {R : Type} (k : Nat) (G : KT2 R) (v4 v6 : GV) (h : Heap) : Option R := (kloadA 2 h v6).bind fun v30 => (kstore 2 h v4 v30).bind fun h => G .ret v4 (.bool true) h
theorem n4_eq (G : KT2 R) (σ : GS) (h : Heap) : KC k 31 c4 σ h (fun x σ h => G x (σ 4) (σ 5) h) = n4 k G (σ 4) (σ 6) h := by kernel_rfl
noncomputable def c5 : Code := cL c3
noncomputable def c6 : Code := cR c5
noncomputable def c7 : Code := cL c6
noncomputable def c8 : Code := cL c7
noncomputable def c9 : Code := cR c8
noncomputable def c10 : Code := cR c9
noncomputable def c11 : Code := cR c10
@[simp] def n11 {R : Type} (k : Nat) (G : KT6 R) (v0 v4 v5 v6 v18 v19 : GV) (h : Heap) : Option R := (kbin .add v19 (.int .i64 1)).bind fun v29 => G .nrm v0 v4 v5 v6 v18 v29 h
theorem n11_eq (G : KT6 R) (σ : GS) (h : Heap) : KC k 31 c11 σ h (fun x σ h => G x (σ 0) (σ 4) (σ 5) (σ 6) (σ 18) (σ 19) h) = n11 k G (σ 0) (σ 4) (σ 5) (σ 6) (σ 18) (σ 19) h := by kernel_rfl
noncomputable def c12 : Code := cL c10
noncomputable def c13 : Code := cL c12
@[simp] def n13 {R : Type} (k : Nat) (G : KT6 R) (v0 v4 v5 v6 v18 v19 : GV) (h : Heap) : Option R := (kfa 1 v6).bind fun v21 => (kload1 h v21).bind fun v22 => (gfill (fun i => [(0, 1), (1, 1), (2, 1), (3, 1), (4, 1)][i]?) [(.int .i64 0), (.int .i64 0), (.bool false), (.bool false), (.bool false)] []).bind fun c => kagg c h fun v24 h => (kF false HH fn.impl_Blank [v0, v24] h).bind fun r => kr r fun v25 h => (gfill (fun i => some (i * 1, 1)) (zeros [.nils] 1) [(0, v25)]).bind fun c => kbs 1 1 c h fun v26 h => (kapp [.nils] 1 24 v22 v26 h).bind fun r => kr r fun v27 h => (kfa 1 v6).bind fun v28 => (kstore 1 h v28 v27).bind fun h => G .nrm v0 v4 v5 v6 v18 v19 h
theorem n13_eq (G : KT6 R) (σ : GS) (h : Heap) : KC k 31 c13 σ h (fun x σ h => G x (σ 0) (σ 4) (σ 5) (σ 6) (σ 18) (σ 19) h) = n13 k G (σ 0) (σ 4) (σ 5) (σ 6) (σ 18) (σ 19) h := by kernel_rfl
@[simp] def n12 (G : KT6 R) (v0 v4 v5 v6 v18 v19 : GV) (h : Heap) : Option R := n13 k (fun x v0 v4 v5 v6 v18 v19 h => kb 1 x fun x => G x v0 v4 v5 v6 v18 v19 h) v0 v4 v5 v6 v18 v19 h
theorem n12_eq (G : KT6 R) (σ : GS) (h : Heap) : KC k 31 c12 σ h (fun x σ h => G x (σ 0) (σ 4) (σ 5) (σ 6) (σ 18) (σ 19) h) = n12 k G (σ 0) (σ 4) (σ 5) (σ 6) (σ 18) (σ 19) h := (kblock_eq (a := c13) rfl).trans (n13_eq k (fun x v0 v4 v5 v6 v18 v19 h => kb 1 x fun x => G x v0 v4 v5 v6 v18 v19 h) σ h)
@[simp] def n10 (G : KT6 R) (v0 v4 v5 v6 v18 v19 : GV) (h : Heap) : Option R := n12 k (fun x v0 v4 v5 v6 v18 v19 h => kx x (n11 k G v0 v4 v5 v6 v18 v19 h) (G x v0 v4 v5 v6 v18 v19 h)) v0 v4 v5 v6 v18 v19 h
theorem n10_eq (G : KT6 R) (σ : GS) (h : Heap) : KC k 31 c10 σ h (fun x σ h => G x (σ 0) (σ 4) (σ 5) (σ 6) (σ 18) (σ 19) h) = n10 k G (σ 0) (σ 4) (σ 5) (σ 6) (σ 18) (σ 19) h := (kseq (b := c11) rfl (fun σ h => n11_eq k G σ h)).trans (n12_eq k (fun x v0 v4 v5 v6 v18 v19 h => kx x (n11 k G v0 v4 v5 v6 v18 v19 h) (G x v0 v4 v5 v6 v18 v19 h)) σ h)
noncomputable def c14 : Code := cL c9
@[simp] def n9 (G : KT6 R) (v0 v4 v5 v6 v18 v19 v20 : GV) (h : Heap) : Option R := kcond v20 (n10 k G v0 v4 v5 v6 v18 v19 h) (G (.ext 0) v0 v4 v5 v6 v18 v19 h)
theorem n9_eq (G : KT6 R) (σ : GS) (h : Heap) : KC k 31 c9 σ h (fun x σ h => G x (σ 0) (σ 4) (σ 5) (σ 6) (σ 18) (σ 19) h) = n9 k G (σ 0) (σ 4) (σ 5) (σ 6) (σ 18) (σ 19) (σ 20) h := (kseq (a := c14) (b := c10) rfl (fun σ h => n10_eq k G σ h)).trans (by kernel_rfl)
noncomputable def c15 : Code := cL c8
@[simp] def n8 (G : KT6 R) (v0 v4 v5 v6 v18 v19 : GV) (h : Heap) : Option R := (kbin .lss v19 v18).bind fun v20 => n9 k G v0 v4 v5 v6 v18 v19 v20 h
theorem n8_eq (G : KT6 R) (σ : GS) (h : Heap) : KC k 31 c8 σ h (fun x σ h => G x (σ 0) (σ 4) (σ 5) (σ 6) (σ 18) (σ 19) h) = n8 k G (σ 0) (σ 4) (σ 5) (σ 6) (σ 18) (σ 19) h := (kseq (a := c15) (b := c9) rfl (fun σ h => n9_eq k G σ h)).trans (by kernel_rfl)
def l7 {R : Type} (k : Nat) (G : KT3 R) : Nat → GV → GV → GV → GV → GV → GV → Heap → Option R
  | 0, _, _, _, _, _, _, _ => none
  | r + 1, v0, v4, v5, v6, v18, v19, h => n8 k (fun x v0 v4 v5 v6 v18 v19 h => kx x (l7 k G r v0 v4 v5 v6 v18 v19 h) (G x v4 v5 v6 h)) v0 v4 v5 v6 v18 v19 h
theorem l7_eq {R : Type} (k : Nat) (G : KT3 R) : ∀ (r : Nat) (σ : GS) (h : Heap), kloop (fun σ h K => KC k 31 c8 σ h K) r σ h (fun x σ h => G x (σ 4) (σ 5) (σ 6) h) = l7 k G r (σ 0) (σ 4) (σ 5) (σ 6) (σ 18) (σ 19) h
  | 0, _, _ => rfl
  | r + 1, σ, h => (kloop_eq (fun σ h => l7_eq k G r σ h)).trans (n8_eq k (fun x v0 v4 v5 v6 v18 v19 h => kx x (l7 k G r v0 v4 v5 v6 v18 v19 h) (G x v4 v5 v6 h)) σ h)
@[simp] def n7 (G : KT3 R) (v0 v4 v5 v6 v18 v19 : GV) (h : Heap) : Option R := l7 k G k v0 v4 v5 v6 v18 v19 h
theorem n7_eq (G : KT3 R) (σ : GS) (h : Heap) : KC k 31 c7 σ h (fun x σ h => G x (σ 4) (σ 5) (σ 6) h) = n7 k G (σ 0) (σ 4) (σ 5) (σ 6) (σ 18) (σ 19) h := (kloopc_eq (a := c8) rfl).trans (l7_eq k G k σ h)
@[simp] def n6 (G : KT3 R) (v0 v4 v5 v6 v18 v19 : GV) (h : Heap) : Option R := n7 k (fun x v4 v5 v6 h => kb 0 x fun x => G x v4 v5 v6 h) v0 v4 v5 v6 v18 v19 h
theorem n6_eq (G : KT3 R) (σ : GS) (h : Heap) : KC k 31 c6 σ h (fun x σ h => G x (σ 4) (σ 5) (σ 6) h) = n6 k G (σ 0) (σ 4) (σ 5) (σ 6) (σ 18) (σ 19) h := (kblock_eq (a := c7) rfl).trans (n7_eq k (fun x v4 v5 v6 h => kb 0 x fun x => G x v4 v5 v6 h) σ h)
noncomputable def c16 : Code := cL c5
@[simp] def n5 (G : KT3 R) (v0 v1 v4 v5 v6 : GV) (h : Heap) : Option R := n6 k G v0 v4 v5 v6 v1 (.int .i64 0) h
theorem n5_eq (G : KT3 R) (σ : GS) (h : Heap) : KC k 31 c5 σ h (fun x σ h => G x (σ 4) (σ 5) (σ 6) h) = n5 k G (σ 0) (σ 1) (σ 4) (σ 5) (σ 6) h := (kseq (a := c16) (b := c6) rfl (fun σ h => n6_eq k G σ h)).trans (by kernel_rfl)
@[simp] def n3 (G : KT2 R) (v0 v1 v4 v5 v6 : GV) (h : Heap) : Option R := n5 k (fun x v4 v5 v6 h => kx x (n4 k G v4 v6 h) (G x v4 v5 h)) v0 v1 v4 v5 v6 h
theorem n3_eq (G : KT2 R) (σ : GS) (h : Heap) : KC k 31 c3 σ h (fun x σ h => G x (σ 4) (σ 5) h) = n3 k G (σ 0) (σ 1) (σ 4) (σ 5) (σ 6) h := (kseq (b := c4) rfl (fun σ h => n4_eq k G σ h)).trans (n5_eq k (fun x v4 v5 v6 h => kx x (n4 k G v4 v6 h) (G x v4 v5 h)) σ h)
noncomputable def c17 : Code := cL c2
@[simp] def n2 (G : KT2 R) (v0 v1 v4 v5 : GV) (h : Heap) : Option R := (gfill (fun i => [(0, 1), (1, 1)][i]?) [(.int .i64 0), .nils] [(0, v0)]).bind fun c => kagg c h fun v17 h => kalloc [(.int .i64 0), .nils] h fun v6 h => (kstore 2 h v6 v17).bind fun h => n3 k G v0 v1 v4 v5 v6 h
theorem n2_eq (G : KT2 R) (σ : GS) (h : Heap) : KC k 31 c2 σ h (fun x σ h => G x (σ 4) (σ 5) h) = n2 k G (σ 0) (σ 1) (σ 4) (σ 5) h := (kseq (a := c17) (b := c3) rfl (fun σ h => n3_eq k G σ h)).trans (by kernel_rfl)
noncomputable def c18 : Code := cL c1
noncomputable def c19 : Code := cR c18
@[simp] def n19 {R : Type} (k : Nat) (G : KT4 R) (v0 v1 v4 v5 v14 : GV) (h : Heap) : Option R := kcond v14 ((gfill (fun i => [(0, 1), (1, 1)][i]?) [(.int .i64 0), .nils] []).bind fun c => kagg c h fun v15 h => (kstore 2 h v4 v15).bind fun h => G .ret v0 v1 v4 (.bool false) h) (G .nrm v0 v1 v4 v5 h)
theorem n19_eq (G : KT4 R) (σ : GS) (h : Heap) : KC k 31 c19 σ h (fun x σ h => G x (σ 0) (σ 1) (σ 4) (σ 5) h) = n19 k G (σ 0) (σ 1) (σ 4) (σ 5) (σ 14) h := by kernel_rfl
noncomputable def c20 : Code := cL c18
noncomputable def o20 : Array Oper := cO c20
@[simp] def g20_2 {R : Type} (k : Nat) (G : KT5 R) (v0 v1 v4 v5 v10 v13 : GV) (h : Heap) : Option R := (kpick v10 (.bool true) v13).bind fun v14 => G .nrm v0 v1 v4 v5 v14 h
theorem g20_2_eq (G : KT5 R) (σ : GS) (h : Heap) : kgroups PP cfg NN HH 31 o20 [(none, [7])] σ h (fun σ h => G .nrm (σ 0) (σ 1) (σ 4) (σ 5) (σ 14) h) = g20_2 k G (σ 0) (σ 1) (σ 4) (σ 5) (σ 10) (σ 13) h := by kernel_rfl
@[simp] def g20_1 (G : KT5 R) (v0 v1 v4 v5 v10 : GV) (h : Heap) : Option R := bif tr false v10 then (kN NN fn.impl_in [v1, (.int .i64 1), (.int .i64 30)] h).bind fun v12 => (kun .not v12).bind fun v13 => g20_2 k G v0 v1 v4 v5 v10 v13 h else g20_2 k G v0 v1 v4 v5 v10 .un h
theorem g20_1_eq (G : KT5 R) (σ : GS) (h : Heap) : kgroups PP cfg NN HH 31 o20 [(some (3, false), [4, 5, 6]), (none, [7])] σ h (fun σ h => G .nrm (σ 0) (σ 1) (σ 4) (σ 5) (σ 14) h) = g20_1 k G (σ 0) (σ 1) (σ 4) (σ 5) (σ 10) h := (kgroups_cons (fun σ h => g20_2_eq k G σ h)).trans (by kernel_rfl)
@[simp] def g20_0 (G : KT5 R) (v0 v1 v4 v5 : GV) (h : Heap) : Option R := (kN NN fn.impl_in [v0, (.int .i64 1), (.int .i64 60)] h).bind fun v8 => (kun .not v8).bind fun v9 => g20_1 k G v0 v1 v4 v5 v9 h
theorem g20_0_eq (G : KT5 R) (σ : GS) (h : Heap) : kgroups PP cfg NN HH 31 o20 [(none, [0, 1, 2, 3]), (some (3, false), [4, 5, 6]), (none, [7])] σ h (fun σ h => G .nrm (σ 0) (σ 1) (σ 4) (σ 5) (σ 14) h) = g20_0 k G (σ 0) (σ 1) (σ 4) (σ 5) h := (kgroups_cons (fun σ h => g20_1_eq k G σ h)).trans (by kernel_rfl)
@[simp] def n20 (G : KT5 R) (v0 v1 v4 v5 : GV) (h : Heap) : Option R := g20_0 k G v0 v1 v4 v5 h
theorem n20_eq (G : KT5 R) (σ : GS) (h : Heap) : KC k 31 c20 σ h (fun x σ h => G x (σ 0) (σ 1) (σ 4) (σ 5) (σ 14) h) = n20 k G (σ 0) (σ 1) (σ 4) (σ 5) h := (kregion_eq (id := 1) (draw := false) (ops := o20) (gs := [(none, [0, 1, 2, 3]), (some (3, false), [4, 5, 6]), (none, [7])]) (by kernel_rfl) (by kernel_rfl) (by kernel_rfl)).trans (g20_0_eq k G σ h)
@[simp] def n18 (G : KT4 R) (v0 v1 v4 v5 : GV) (h : Heap) : Option R := n20 k (fun x v0 v1 v4 v5 v14 h => kx x (n19 k G v0 v1 v4 v5 v14 h) (G x v0 v1 v4 v5 h)) v0 v1 v4 v5 h
theorem n18_eq (G : KT4 R) (σ : GS) (h : Heap) : KC k 31 c18 σ h (fun x σ h => G x (σ 0) (σ 1) (σ 4) (σ 5) h) = n18 k G (σ 0) (σ 1) (σ 4) (σ 5) h := (kseq (b := c19) rfl (fun σ h => n19_eq k G σ h)).trans (n20_eq k (fun x v0 v1 v4 v5 v14 h => kx x (n19 k G v0 v1 v4 v5 v14 h) (G x v0 v1 v4 v5 h)) σ h)
@[simp] def n1 (G : KT2 R) (v0 v1 v4 v5 : GV) (h : Heap) : Option R := n18 k (fun x v0 v1 v4 v5 h => kx x (n2 k G v0 v1 v4 v5 h) (G x v4 v5 h)) v0 v1 v4 v5 h
theorem n1_eq (G : KT2 R) (σ : GS) (h : Heap) : KC k 31 c1 σ h (fun x σ h => G x (σ 4) (σ 5) h) = n1 k G (σ 0) (σ 1) (σ 4) (σ 5) h := (kseq (b := c2) rfl (fun σ h => n2_eq k G σ h)).trans (n18_eq k (fun x v0 v1 v4 v5 h => kx x (n2 k G v0 v1 v4 v5 h) (G x v4 v5 h)) σ h)
noncomputable def c21 : Code := cL c0
@[simp] def n0 (G : KT2 R) (v0 v1 : GV) (h : Heap) : Option R := kalloc [(.int .i64 0), .nils] h fun v4 h => n1 k G v0 v1 v4 (.bool false) h
theorem n0_eq (G : KT2 R) (σ : GS) (h : Heap) : KC k 31 c0 σ h (fun x σ h => G x (σ 4) (σ 5) h) = n0 k G (σ 0) (σ 1) h := (kseq (a := c21) (b := c1) rfl (fun σ h => n1_eq k G σ h)).trans (by kernel_rfl)
def run {R : Type} (k : Nat) (a0 : GV) (a1 : GV) (h : Heap) (fin : GV → Heap → Option R) : Option R := n0 k (fun x v4 v5 h => kend x ((kloadA 2 h v4).bind fun w4 => fin (.tup [w4, v5]) h)) a0 a1 h
theorem run_eq {R : Type} (k : Nat) (a0 : GV) (a1 : GV) (h : Heap) (fin : GV → Heap → Option R) : kfun PP cfg NN HH k fn.impl_NewGrid [a0, a1] h fin = run k a0 a1 h fin := (kfun_eq (nt := 31) (c := c0) (show PP.funcs[fn.impl_NewGrid]? = some Try.f215 by kernel_rfl) (by kernel_rfl) (by kernel_rfl) (fun x σ h => by cases x <;> kernel_rfl)).trans (n0_eq k (fun x v4 v5 h => kend x ((kloadA 2 h v4).bind fun w4 => fin (.tup [w4, v5]) h)) _ h)
theorem gives {k : Nat} {a0 : GV} {a1 : GV} {b : Nat} {q : GV × List (List GV)} (e : run k a0 a1 [] (finO b) = some q) : OO fn.impl_NewGrid [a0, a1] b = some q := oω_of ((run_eq k a0 a1 [] (finO b)).trans e)
end S.impl_NewGrid
/-! spec_l5New -/
namespace S.spec_l5New
noncomputable def c0 : Code := bodyOf Try.f214
noncomputable def c1 : Code := cR c0
noncomputable def c2 : Code := cR c1
noncomputable def c3 : Code := cR c2
@[simp] def n3 {R : Type} (k : Nat) (G : KT1 R) (v4 v5 : GV) (h : Heap) : Option R := (kloadA 2 h v5).bind fun v22 => (kstore 2 h v4 v22).bind fun h => G .ret v4 h
theorem n3_eq (G : KT1 R) (σ : GS) (h : Heap) : KC k 23 c3 σ h (fun x σ h => G x (σ 4) h) = n3 k G (σ 4) (σ 5) h := by kernel_rfl
noncomputable def c4 : Code := cL c2
noncomputable def c5 : Code := cR c4
noncomputable def c6 : Code := cL c5
noncomputable def c7 : Code := cL c6
noncomputable def c8 : Code := cR c7
noncomputable def c9 : Code := cR c8
@[simp] def n9 {R : Type} (k : Nat) (G : KT5 R) (v0 v1 v4 v5 v6 : GV) (h : Heap) : Option R := (kbin .add v6 (.int .i64 1)).bind fun v13 => G .nrm v0 v1 v4 v5 v13 h
theorem n9_eq (G : KT5 R) (σ : GS) (h : Heap) : KC k 23 c9 σ h (fun x σ h => G x (σ 0) (σ 1) (σ 4) (σ 5) (σ 6) h) = n9 k G (σ 0) (σ 1) (σ 4) (σ 5) (σ 6) h := by kernel_rfl
noncomputable def c10 : Code := cL c8
noncomputable def c11 : Code := cL c10
@[simp] def n11 {R : Type} (k : Nat) (G : KT5 R) (v0 v1 v4 v5 v6 : GV) (h : Heap) : Option R := (kfa 1 v5).bind fun v14 => (kload1 h v14).bind fun v15 => (gfill (fun i => [(0, 1), (1, 1), (2, 1), (3, 1), (4, 1)][i]?) [(.int .i64 0), (.int .i64 0), (.bool false), (.bool false), (.bool false)] []).bind fun c => kagg c h fun v17 h => (kF false HH fn.spec_l4Row [v0, v17] h).bind fun r => kr r fun v18 h => (gfill (fun i => some (i * 1, 1)) (zeros [.nils] 1) [(0, v18)]).bind fun c => kbs 1 1 c h fun v19 h => (kapp [.nils] 1 24 v15 v19 h).bind fun r => kr r fun v20 h => (kfa 1 v5).bind fun v21 => (kstore 1 h v21 v20).bind fun h => G .nrm v0 v1 v4 v5 v6 h
theorem n11_eq (G : KT5 R) (σ : GS) (h : Heap) : KC k 23 c11 σ h (fun x σ h => G x (σ 0) (σ 1) (σ 4) (σ 5) (σ 6) h) = n11 k G (σ 0) (σ 1) (σ 4) (σ 5) (σ 6) h := by kernel_rfl
@[simp] def n10 (G : KT5 R) (v0 v1 v4 v5 v6 : GV) (h : Heap) : Option R := n11 k (fun x v0 v1 v4 v5 v6 h => kb 1 x fun x => G x v0 v1 v4 v5 v6 h) v0 v1 v4 v5 v6 h
theorem n10_eq (G : KT5 R) (σ : GS) (h : Heap) : KC k 23 c10 σ h (fun x σ h => G x (σ 0) (σ 1) (σ 4) (σ 5) (σ 6) h) = n10 k G (σ 0) (σ 1) (σ 4) (σ 5) (σ 6) h := (kblock_eq (a := c11) rfl).trans (n11_eq k (fun x v0 v1 v4 v5 v6 h => kb 1 x fun x => G x v0 v1 v4 v5 v6 h) σ h)
@[simp] def n8 (G : KT5 R) (v0 v1 v4 v5 v6 : GV) (h : Heap) : Option R := n10 k (fun x v0 v1 v4 v5 v6 h => kx x (n9 k G v0 v1 v4 v5 v6 h) (G x v0 v1 v4 v5 v6 h)) v0 v1 v4 v5 v6 h
theorem n8_eq (G : KT5 R) (σ : GS) (h : Heap) : KC k 23 c8 σ h (fun x σ h => G x (σ 0) (σ 1) (σ 4) (σ 5) (σ 6) h) = n8 k G (σ 0) (σ 1) (σ 4) (σ 5) (σ 6) h := (kseq (b := c9) rfl (fun σ h => n9_eq k G σ h)).trans (n10_eq k (fun x v0 v1 v4 v5 v6 h => kx x (n9 k G v0 v1 v4 v5 v6 h) (G x v0 v1 v4 v5 v6 h)) σ h)
noncomputable def c12 : Code := cL c7
@[simp] def n7 (G : KT5 R) (v0 v1 v4 v5 v6 : GV) (h : Heap) : Option R := (kbin .lss v6 v1).bind fun v11 => kcond v11 (n8 k G v0 v1 v4 v5 v6 h) (G (.ext 0) v0 v1 v4 v5 v6 h)
theorem n7_eq (G : KT5 R) (σ : GS) (h : Heap) : KC k 23 c7 σ h (fun x σ h => G x (σ 0) (σ 1) (σ 4) (σ 5) (σ 6) h) = n7 k G (σ 0) (σ 1) (σ 4) (σ 5) (σ 6) h := (kseq (a := c12) (b := c8) rfl (fun σ h => n8_eq k G σ h)).trans (by kernel_rfl)
def l6 {R : Type} (k : Nat) (G : KT2 R) : Nat → GV → GV → GV → GV → GV → Heap → Option R
  | 0, _, _, _, _, _, _ => none
  | r + 1, v0, v1, v4, v5, v6, h => n7 k (fun x v0 v1 v4 v5 v6 h => kx x (l6 k G r v0 v1 v4 v5 v6 h) (G x v4 v5 h)) v0 v1 v4 v5 v6 h
theorem l6_eq {R : Type} (k : Nat) (G : KT2 R) : ∀ (r : Nat) (σ : GS) (h : Heap), kloop (fun σ h K => KC k 23 c7 σ h K) r σ h (fun x σ h => G x (σ 4) (σ 5) h) = l6 k G r (σ 0) (σ 1) (σ 4) (σ 5) (σ 6) h
  | 0, _, _ => rfl
  | r + 1, σ, h => (kloop_eq (fun σ h => l6_eq k G r σ h)).trans (n7_eq k (fun x v0 v1 v4 v5 v6 h => kx x (l6 k G r v0 v1 v4 v5 v6 h) (G x v4 v5 h)) σ h)
@[simp] def n6 (G : KT2 R) (v0 v1 v4 v5 v6 : GV) (h : Heap) : Option R := l6 k G k v0 v1 v4 v5 v6 h
theorem n6_eq (G : KT2 R) (σ : GS) (h : Heap) : KC k 23 c6 σ h (fun x σ h => G x (σ 4) (σ 5) h) = n6 k G (σ 0) (σ 1) (σ 4) (σ 5) (σ 6) h := (kloopc_eq (a := c7) rfl).trans (l6_eq k G k σ h)
@[simp] def n5 (G : KT2 R) (v0 v1 v4 v5 v6 : GV) (h : Heap) : Option R := n6 k (fun x v4 v5 h => kb 0 x fun x => G x v4 v5 h) v0 v1 v4 v5 v6 h
theorem n5_eq (G : KT2 R) (σ : GS) (h : Heap) : KC k 23 c5 σ h (fun x σ h => G x (σ 4) (σ 5) h) = n5 k G (σ 0) (σ 1) (σ 4) (σ 5) (σ 6) h := (kblock_eq (a := c6) rfl).trans (n6_eq k (fun x v4 v5 h => kb 0 x fun x => G x v4 v5 h) σ h)
noncomputable def c13 : Code := cL c4
@[simp] def n4 (G : KT2 R) (v0 v1 v4 v5 : GV) (h : Heap) : Option R := n5 k G v0 v1 v4 v5 (.int .i64 0) h
theorem n4_eq (G : KT2 R) (σ : GS) (h : Heap) : KC k 23 c4 σ h (fun x σ h => G x (σ 4) (σ 5) h) = n4 k G (σ 0) (σ 1) (σ 4) (σ 5) h := (kseq (a := c13) (b := c5) rfl (fun σ h => n5_eq k G σ h)).trans (by kernel_rfl)
@[simp] def n2 (G : KT1 R) (v0 v1 v4 v5 : GV) (h : Heap) : Option R := n4 k (fun x v4 v5 h => kx x (n3 k G v4 v5 h) (G x v4 h)) v0 v1 v4 v5 h
theorem n2_eq (G : KT1 R) (σ : GS) (h : Heap) : KC k 23 c2 σ h (fun x σ h => G x (σ 4) h) = n2 k G (σ 0) (σ 1) (σ 4) (σ 5) h := (kseq (b := c3) rfl (fun σ h => n3_eq k G σ h)).trans (n4_eq k (fun x v4 v5 h => kx x (n3 k G v4 v5 h) (G x v4 h)) σ h)
noncomputable def c14 : Code := cL c1
@[simp] def n1 (G : KT1 R) (v0 v1 v4 : GV) (h : Heap) : Option R := (gfill (fun i => [(0, 1), (1, 1)][i]?) [(.int .i64 0), .nils] [(0, v0)]).bind fun c => kagg c h fun v8 h => kalloc [(.int .i64 0), .nils] h fun v5 h => (kstore 2 h v5 v8).bind fun h => n2 k G v0 v1 v4 v5 h
theorem n1_eq (G : KT1 R) (σ : GS) (h : Heap) : KC k 23 c1 σ h (fun x σ h => G x (σ 4) h) = n1 k G (σ 0) (σ 1) (σ 4) h := (kseq (a := c14) (b := c2) rfl (fun σ h => n2_eq k G σ h)).trans (by kernel_rfl)
noncomputable def c15 : Code := cL c0
@[simp] def n0 (G : KT1 R) (v0 v1 : GV) (h : Heap) : Option R := kalloc [(.int .i64 0), .nils] h fun v4 h => n1 k G v0 v1 v4 h
theorem n0_eq (G : KT1 R) (σ : GS) (h : Heap) : KC k 23 c0 σ h (fun x σ h => G x (σ 4) h) = n0 k G (σ 0) (σ 1) h := (kseq (a := c15) (b := c1) rfl (fun σ h => n1_eq k G σ h)).trans (by kernel_rfl)
def run {R : Type} (k : Nat) (a0 : GV) (a1 : GV) (h : Heap) (fin : GV → Heap → Option R) : Option R := n0 k (fun x v4 h => kend x ((kloadA 2 h v4).bind fun w4 => fin w4 h)) a0 a1 h
theorem run_eq {R : Type} (k : Nat) (a0 : GV) (a1 : GV) (h : Heap) (fin : GV → Heap → Option R) : kfun PP cfg NN HH k fn.spec_l5New [a0, a1] h fin = run k a0 a1 h fin := (kfun_eq (nt := 23) (c := c0) (show PP.funcs[fn.spec_l5New]? = some Try.f214 by kernel_rfl) (by kernel_rfl) (by kernel_rfl) (fun x σ h => by cases x <;> kernel_rfl)).trans (n0_eq k (fun x v4 h => kend x ((kloadA 2 h v4).bind fun w4 => fin w4 h)) _ h)
theorem gives {k : Nat} {a0 : GV} {a1 : GV} {b : Nat} {q : GV × List (List GV)} (e : run k a0 a1 [] (finO b) = some q) : OO fn.spec_l5New [a0, a1] b = some q := oω_of ((run_eq k a0 a1 [] (finO b)).trans e)
end S.spec_l5New
/-! impl_NewChain -/
namespace S.impl_NewChain
noncomputable def c0 : Code := bodyOf Try.f36
@[simp] def n0 {R : Type} (k : Nat) (G : KT2 R) (v0 : GV) (h : Heap) : Option R := kalloc [.nils, .nils, .nils] h fun v2 h => (kN NN fn.impl_in [v0, (.int .i64 1), (.int .i64 5)] h).bind fun v5 => (kun .not v5).bind fun v6 => kcond v6 ((gfill (fun i => [(0, 1), (1, 1), (2, 1)][i]?) [.nils, .nils, .nils] []).bind fun c => kagg c h fun v7 h => (kstore 3 h v2 v7).bind fun h => G .ret v2 (.bool false) h) ((kmake [.nils, (.int .i64 0)] 2 32 v0 v0 h).bind fun r => kr r fun v9 h => (kbin .sub v0 (.int .i64 1)).bind fun v11 => (kmake [.nils] 1 24 v11 v11 h).bind fun r => kr r fun v12 h => (kbin .sub v0 (.int .i64 1)).bind fun v14 => (kmake [.nils] 1 24 v14 v14 h).bind fun r => kr r fun v15 h => (gfill (fun i => [(0, 1), (1, 1), (2, 1)][i]?) [.nils, .nils, .nils] [(0, v9), (1, v12), (2, v15)]).bind fun c => kagg c h fun v16 h => (kstore 3 h v2 v16).bind fun h => G .ret v2 (.bool true) h)
theorem n0_eq (G : KT2 R) (σ : GS) (h : Heap) : KC k 17 c0 σ h (fun x σ h => G x (σ 2) (σ 3) h) = n0 k G (σ 0) h := by kernel_rfl
def run {R : Type} (k : Nat) (a0 : GV) (h : Heap) (fin : GV → Heap → Option R) : Option R := n0 k (fun x v2 v3 h => kend x ((kloadA 3 h v2).bind fun w2 => fin (.tup [w2, v3]) h)) a0 h
theorem run_eq {R : Type} (k : Nat) (a0 : GV) (h : Heap) (fin : GV → Heap → Option R) : kfun PP cfg NN HH k fn.impl_NewChain [a0] h fin = run k a0 h fin := (kfun_eq (nt := 17) (c := c0) (show PP.funcs[fn.impl_NewChain]? = some Try.f36 by kernel_rfl) (by kernel_rfl) (by kernel_rfl) (fun x σ h => by cases x <;> kernel_rfl)).trans (n0_eq k (fun x v2 v3 h => kend x ((kloadA 3 h v2).bind fun w2 => fin (.tup [w2, v3]) h)) _ h)
theorem gives {k : Nat} {a0 : GV} {b : Nat} {q : GV × List (List GV)} (e : run k a0 [] (finO b) = some q) : OO fn.impl_NewChain [a0] b = some q := oω_of ((run_eq k a0 [] (finO b)).trans e)
end S.impl_NewChain
/-! spec_NewChain -/
namespace S.spec_NewChain
noncomputable def c0 : Code := bodyOf Try.f43
@[simp] def n0 {R : Type} (k : Nat) (G : KT2 R) (v0 : GV) (h : Heap) : Option R := kalloc [.nils, .nils, .nils] h fun v2 h => (kN NN fn.spec_l1In [v0, (.int .i64 1), (.int .i64 5)] h).bind fun v5 => (kun .not v5).bind fun v6 => kcond v6 ((gfill (fun i => [(0, 1), (1, 1), (2, 1)][i]?) [.nils, .nils, .nils] []).bind fun c => kagg c h fun v7 h => (kstore 3 h v2 v7).bind fun h => G .ret v2 (.bool false) h) ((kmake [.nils, (.int .i64 0)] 2 32 v0 v0 h).bind fun r => kr r fun v9 h => (kbin .sub v0 (.int .i64 1)).bind fun v11 => (kmake [.nils] 1 24 v11 v11 h).bind fun r => kr r fun v12 h => (kbin .sub v0 (.int .i64 1)).bind fun v14 => (kmake [.nils] 1 24 v14 v14 h).bind fun r => kr r fun v15 h => (gfill (fun i => [(0, 1), (1, 1), (2, 1)][i]?) [.nils, .nils, .nils] [(0, v9), (1, v12), (2, v15)]).bind fun c => kagg c h fun v16 h => (kstore 3 h v2 v16).bind fun h => G .ret v2 (.bool true) h)
theorem n0_eq (G : KT2 R) (σ : GS) (h : Heap) : KC k 17 c0 σ h (fun x σ h => G x (σ 2) (σ 3) h) = n0 k G (σ 0) h := by kernel_rfl
def run {R : Type} (k : Nat) (a0 : GV) (h : Heap) (fin : GV → Heap → Option R) : Option R := n0 k (fun x v2 v3 h => kend x ((kloadA 3 h v2).bind fun w2 => fin (.tup [w2, v3]) h)) a0 h
theorem run_eq {R : Type} (k : Nat) (a0 : GV) (h : Heap) (fin : GV → Heap → Option R) : kfun PP cfg NN HH k fn.spec_NewChain [a0] h fin = run k a0 h fin := (kfun_eq (nt := 17) (c := c0) (show PP.funcs[fn.spec_NewChain]? = some Try.f43 by kernel_rfl) (by kernel_rfl) (by kernel_rfl) (fun x σ h => by cases x <;> kernel_rfl)).trans (n0_eq k (fun x v2 v3 h => kend x ((kloadA 3 h v2).bind fun w2 => fin (.tup [w2, v3]) h)) _ h)
theorem gives {k : Nat} {a0 : GV} {v : GV} (e : run k a0 [] finN = some v) : NN fn.spec_NewChain [a0] = some v := nω_of (by kernel_rfl) ((run_eq k a0 [] finN).trans e)
end S.spec_NewChain
/-! impl_NewClient -/
namespace S.impl_NewClient
noncomputable def c0 : Code := bodyOf Try.f153
@[simp] def n0 {R : Type} (k : Nat) (G : KT2 R) (v0 : GV) (h : Heap) : Option R := kalloc [(.int .i64 0), .nils, (.int .i64 0), (.int .i64 0), .nils, (.int .i64 0), (.int .i64 0), .nils, (.int .i64 0)] h fun v2 h => (kN NN fn.impl_in [v0, (.int .i64 0), (.int .i64 3)] h).bind fun v7 => (kun .not v7).bind fun v8 => kcond v8 ((gfill (fun i => [(0, 1), (1, 1), (2, 1), (3, 2), (5, 1), (6, 2), (8, 1)][i]?) [(.int .i64 0), .nils, (.int .i64 0), (.int .i64 0), .nils, (.int .i64 0), (.int .i64 0), .nils, (.int .i64 0)] []).bind fun c => kagg c h fun v9 h => (kstore 9 h v2 v9).bind fun h => G .ret v2 (.bool false) h) ((kF false HH fn.impl_NewGrid [(.int .i64 20), (.int .i64 5)] h).bind fun r => kr r fun v11 h => (kxt 0 v11).bind fun v12 => (kxt 1 v11).bind fun v13 => kalloc [(.int .i64 0), .nils] h fun v4 h => (kstore 2 h v4 v12).bind fun h => (kloadA 2 h v4).bind fun v15 => (gfill (fun i => [(0, 1), (1, 1)][i]?) [(.int .i64 0), .nils] [(0, (.int .i64 (-1)))]).bind fun c => kagg c h fun v16 h => (gfill (fun i => [(0, 1), (1, 1), (2, 1), (3, 2), (5, 1), (6, 2), (8, 1)][i]?) [(.int .i64 0), .nils, (.int .i64 0), (.int .i64 0), .nils, (.int .i64 0), (.int .i64 0), .nils, (.int .i64 0)] [(0, v0), (2, (.int .i64 1)), (3, v15), (5, v16)]).bind fun c => kagg c h fun v17 h => (kstore 9 h v2 v17).bind fun h => G .ret v2 (.bool true) h)
theorem n0_eq (G : KT2 R) (σ : GS) (h : Heap) : KC k 18 c0 σ h (fun x σ h => G x (σ 2) (σ 3) h) = n0 k G (σ 0) h := by kernel_rfl
def run {R : Type} (k : Nat) (a0 : GV) (h : Heap) (fin : GV → Heap → Option R) : Option R := n0 k (fun x v2 v3 h => kend x ((kloadA 9 h v2).bind fun w2 => fin (.tup [w2, v3]) h)) a0 h
theorem run_eq {R : Type} (k : Nat) (a0 : GV) (h : Heap) (fin : GV → Heap → Option R) : kfun PP cfg NN HH k fn.impl_NewClient [a0] h fin = run k a0 h fin := (kfun_eq (nt := 18) (c := c0) (show PP.funcs[fn.impl_NewClient]? = some Try.f153 by kernel_rfl) (by kernel_rfl) (by kernel_rfl) (fun x σ h => by cases x <;> kernel_rfl)).trans (n0_eq k (fun x v2 v3 h => kend x ((kloadA 9 h v2).bind fun w2 => fin (.tup [w2, v3]) h)) _ h)
theorem gives {k : Nat} {a0 : GV} {b : Nat} {q : GV × List (List GV)} (e : run k a0 [] (finO b) = some q) : OO fn.impl_NewClient [a0] b = some q := oω_of ((run_eq k a0 [] (finO b)).trans e)
end S.impl_NewClient
/-! spec_l19New -/
namespace S.spec_l19New
noncomputable def c0 : Code := bodyOf Try.f152
@[simp] def n0 {R : Type} (k : Nat) (G : KT1 R) (v0 : GV) (h : Heap) : Option R := kalloc [(.int .i64 0), .nils, (.int .i64 0), (.int .i64 0), .nils, (.int .i64 0), (.int .i64 0), .nils, (.int .i64 0)] h fun v2 h => (kF false HH fn.spec_l5New [(.int .i64 20), (.int .i64 5)] h).bind fun r => kr r fun v4 h => (gfill (fun i => [(0, 1), (1, 1)][i]?) [(.int .i64 0), .nils] [(0, (.int .i64 (-1)))]).bind fun c => kagg c h fun v5 h => (gfill (fun i => [(0, 1), (1, 1), (2, 1), (3, 2), (5, 1), (6, 2), (8, 1)][i]?) [(.int .i64 0), .nils, (.int .i64 0), (.int .i64 0), .nils, (.int .i64 0), (.int .i64 0), .nils, (.int .i64 0)] [(0, v0), (2, (.int .i64 1)), (3, v4), (5, v5)]).bind fun c => kagg c h fun v6 h => (kstore 9 h v2 v6).bind fun h => G .ret v2 h
theorem n0_eq (G : KT1 R) (σ : GS) (h : Heap) : KC k 7 c0 σ h (fun x σ h => G x (σ 2) h) = n0 k G (σ 0) h := by kernel_rfl
def run {R : Type} (k : Nat) (a0 : GV) (h : Heap) (fin : GV → Heap → Option R) : Option R := n0 k (fun x v2 h => kend x ((kloadA 9 h v2).bind fun w2 => fin w2 h)) a0 h
theorem run_eq {R : Type} (k : Nat) (a0 : GV) (h : Heap) (fin : GV → Heap → Option R) : kfun PP cfg NN HH k fn.spec_l19New [a0] h fin = run k a0 h fin := (kfun_eq (nt := 7) (c := c0) (show PP.funcs[fn.spec_l19New]? = some Try.f152 by kernel_rfl) (by kernel_rfl) (by kernel_rfl) (fun x σ h => by cases x <;> kernel_rfl)).trans (n0_eq k (fun x v2 h => kend x ((kloadA 9 h v2).bind fun w2 => fin w2 h)) _ h)
theorem gives {k : Nat} {a0 : GV} {b : Nat} {q : GV × List (List GV)} (e : run k a0 [] (finO b) = some q) : OO fn.spec_l19New [a0] b = some q := oω_of ((run_eq k a0 [] (finO b)).trans e)
end S.spec_l19New
/-! impl_NewWorld -/
namespace S.impl_NewWorld
noncomputable def c0 : Code := bodyOf Try.f53
noncomputable def c1 : Code := cR c0
noncomputable def c2 : Code := cR c1
noncomputable def c3 : Code := cR c2
noncomputable def c4 : Code := cR c3
noncomputable def c5 : Code := cR c4
@[simp] def n5 {R : Type} (k : Nat) (G : KT2 R) (v2 v6 : GV) (h : Heap) : Option R := (kloadA 6 h v6).bind fun v35 => (kstore 6 h v2 v35).bind fun h => G .ret v2 (.bool true) h
theorem n5_eq (G : KT2 R) (σ : GS) (h : Heap) : KC k 36 c5 σ h (fun x σ h => G x (σ 2) (σ 3) h) = n5 k G (σ 2) (σ 6) h := by kernel_rfl
noncomputable def c6 : Code := cL c4
noncomputable def c7 : Code := cR c6
noncomputable def c8 : Code := cL c7
noncomputable def c9 : Code := cL c8
noncomputable def c10 : Code := cR c9
noncomputable def c11 : Code := cR c10
noncomputable def c12 : Code := cR c11
@[simp] def n12 {R : Type} (k : Nat) (G : KT4 R) (v2 v3 v6 v20 : GV) (h : Heap) : Option R := (kbin .add v20 (.int .i64 1)).bind fun v34 => G .nrm v2 v3 v6 v34 h
theorem n12_eq (G : KT4 R) (σ : GS) (h : Heap) : KC k 36 c12 σ h (fun x σ h => G x (σ 2) (σ 3) (σ 6) (σ 20) h) = n12 k G (σ 2) (σ 3) (σ 6) (σ 20) h := by kernel_rfl
noncomputable def c13 : Code := cL c11
noncomputable def c14 : Code := cL c13
@[simp] def n14 {R : Type} (k : Nat) (G : KT4 R) (v2 v3 v6 v20 : GV) (h : Heap) : Option R := (kF false HH fn.impl_NewClient [v20] h).bind fun r => kr r fun v25 h => (kxt 0 v25).bind fun v26 => (kxt 1 v25).bind fun v27 => kalloc [(.int .i64 0), .nils, (.int .i64 0), (.int .i64 0), .nils, (.int .i64 0), (.int .i64 0), .nils, (.int .i64 0)] h fun v8 h => (kstore 9 h v8 v26).bind fun h => (kfa 3 v6).bind fun v28 => (kload1 h v28).bind fun v29 => (kloadA 9 h v8).bind fun v30 => (gfill (fun i => some (i * 9, 9)) (zeros [(.int .i64 0), .nils, (.int .i64 0), (.int .i64 0), .nils, (.int .i64 0), (.int .i64 0), .nils, (.int .i64 0)] 1) [(0, v30)]).bind fun c => kbs 1 9 c h fun v31 h => (kapp [(.int .i64 0), .nils, (.int .i64 0), (.int .i64 0), .nils, (.int .i64 0), (.int .i64 0), .nils, (.int .i64 0)] 9 120 v29 v31 h).bind fun r => kr r fun v32 h => (kfa 3 v6).bind fun v33 => (kstore 1 h v33 v32).bind fun h => G .nrm v2 v3 v6 v20 h
theorem n14_eq (G : KT4 R) (σ : GS) (h : Heap) : KC k 36 c14 σ h (fun x σ h => G x (σ 2) (σ 3) (σ 6) (σ 20) h) = n14 k G (σ 2) (σ 3) (σ 6) (σ 20) h := by kernel_rfl
@[simp] def n13 (G : KT4 R) (v2 v3 v6 v20 : GV) (h : Heap) : Option R := n14 k (fun x v2 v3 v6 v20 h => kb 1 x fun x => G x v2 v3 v6 v20 h) v2 v3 v6 v20 h
theorem n13_eq (G : KT4 R) (σ : GS) (h : Heap) : KC k 36 c13 σ h (fun x σ h => G x (σ 2) (σ 3) (σ 6) (σ 20) h) = n13 k G (σ 2) (σ 3) (σ 6) (σ 20) h := (kblock_eq (a := c14) rfl).trans (n14_eq k (fun x v2 v3 v6 v20 h => kb 1 x fun x => G x v2 v3 v6 v20 h) σ h)
@[simp] def n11 (G : KT4 R) (v2 v3 v6 v20 : GV) (h : Heap) : Option R := n13 k (fun x v2 v3 v6 v20 h => kx x (n12 k G v2 v3 v6 v20 h) (G x v2 v3 v6 v20 h)) v2 v3 v6 v20 h
theorem n11_eq (G : KT4 R) (σ : GS) (h : Heap) : KC k 36 c11 σ h (fun x σ h => G x (σ 2) (σ 3) (σ 6) (σ 20) h) = n11 k G (σ 2) (σ 3) (σ 6) (σ 20) h := (kseq (b := c12) rfl (fun σ h => n12_eq k G σ h)).trans (n13_eq k (fun x v2 v3 v6 v20 h => kx x (n12 k G v2 v3 v6 v20 h) (G x v2 v3 v6 v20 h)) σ h)
noncomputable def c15 : Code := cL c10
@[simp] def n10 (G : KT4 R) (v2 v3 v6 v20 v21 : GV) (h : Heap) : Option R := kcond v21 (n11 k G v2 v3 v6 v20 h) (G (.ext 0) v2 v3 v6 v20 h)
theorem n10_eq (G : KT4 R) (σ : GS) (h : Heap) : KC k 36 c10 σ h (fun x σ h => G x (σ 2) (σ 3) (σ 6) (σ 20) h) = n10 k G (σ 2) (σ 3) (σ 6) (σ 20) (σ 21) h := (kseq (a := c15) (b := c11) rfl (fun σ h => n11_eq k G σ h)).trans (by kernel_rfl)
noncomputable def c16 : Code := cL c9
@[simp] def n9 (G : KT4 R) (v2 v3 v6 v20 : GV) (h : Heap) : Option R := (kbin .lss v20 (.int .i64 2)).bind fun v21 => n10 k G v2 v3 v6 v20 v21 h
theorem n9_eq (G : KT4 R) (σ : GS) (h : Heap) : KC k 36 c9 σ h (fun x σ h => G x (σ 2) (σ 3) (σ 6) (σ 20) h) = n9 k G (σ 2) (σ 3) (σ 6) (σ 20) h := (kseq (a := c16) (b := c10) rfl (fun σ h => n10_eq k G σ h)).trans (by kernel_rfl)
def l8 {R : Type} (k : Nat) (G : KT3 R) : Nat → GV → GV → GV → GV → Heap → Option R
  | 0, _, _, _, _, _ => none
  | r + 1, v2, v3, v6, v20, h => n9 k (fun x v2 v3 v6 v20 h => kx x (l8 k G r v2 v3 v6 v20 h) (G x v2 v3 v6 h)) v2 v3 v6 v20 h
theorem l8_eq {R : Type} (k : Nat) (G : KT3 R) : ∀ (r : Nat) (σ : GS) (h : Heap), kloop (fun σ h K => KC k 36 c9 σ h K) r σ h (fun x σ h => G x (σ 2) (σ 3) (σ 6) h) = l8 k G r (σ 2) (σ 3) (σ 6) (σ 20) h
  | 0, _, _ => rfl
  | r + 1, σ, h => (kloop_eq (fun σ h => l8_eq k G r σ h)).trans (n9_eq k (fun x v2 v3 v6 v20 h => kx x (l8 k G r v2 v3 v6 v20 h) (G x v2 v3 v6 h)) σ h)
@[simp] def n8 (G : KT3 R) (v2 v3 v6 v20 : GV) (h : Heap) : Option R := l8 k G k v2 v3 v6 v20 h
theorem n8_eq (G : KT3 R) (σ : GS) (h : Heap) : KC k 36 c8 σ h (fun x σ h => G x (σ 2) (σ 3) (σ 6) h) = n8 k G (σ 2) (σ 3) (σ 6) (σ 20) h := (kloopc_eq (a := c9) rfl).trans (l8_eq k G k σ h)
@[simp] def n7 (G : KT3 R) (v2 v3 v6 v20 : GV) (h : Heap) : Option R := n8 k (fun x v2 v3 v6 h => kb 0 x fun x => G x v2 v3 v6 h) v2 v3 v6 v20 h
theorem n7_eq (G : KT3 R) (σ : GS) (h : Heap) : KC k 36 c7 σ h (fun x σ h => G x (σ 2) (σ 3) (σ 6) h) = n7 k G (σ 2) (σ 3) (σ 6) (σ 20) h := (kblock_eq (a := c8) rfl).trans (n8_eq k (fun x v2 v3 v6 h => kb 0 x fun x => G x v2 v3 v6 h) σ h)
noncomputable def c17 : Code := cL c6
@[simp] def n6 (G : KT3 R) (v2 v3 v6 : GV) (h : Heap) : Option R := n7 k G v2 v3 v6 (.int .i64 0) h
theorem n6_eq (G : KT3 R) (σ : GS) (h : Heap) : KC k 36 c6 σ h (fun x σ h => G x (σ 2) (σ 3) (σ 6) h) = n6 k G (σ 2) (σ 3) (σ 6) h := (kseq (a := c17) (b := c7) rfl (fun σ h => n7_eq k G σ h)).trans (by kernel_rfl)
@[simp] def n4 (G : KT2 R) (v2 v3 v6 : GV) (h : Heap) : Option R := n6 k (fun x v2 v3 v6 h => kx x (n5 k G v2 v6 h) (G x v2 v3 h)) v2 v3 v6 h
theorem n4_eq (G : KT2 R) (σ : GS) (h : Heap) : KC k 36 c4 σ h (fun x σ h => G x (σ 2) (σ 3) h) = n4 k G (σ 2) (σ 3) (σ 6) h := (kseq (b := c5) rfl (fun σ h => n5_eq k G σ h)).trans (n6_eq k (fun x v2 v3 v6 h => kx x (n5 k G v2 v6 h) (G x v2 v3 h)) σ h)
noncomputable def c18 : Code := cL c3
@[simp] def n3 (G : KT2 R) (v2 v3 v4 : GV) (h : Heap) : Option R := (kloadA 3 h v4).bind fun v18 => (gfill (fun i => [(0, 3), (3, 1), (4, 1), (5, 1)][i]?) [.nils, .nils, .nils, .nils, .nils, .nils] [(0, v18)]).bind fun c => kagg c h fun v19 h => kalloc [.nils, .nils, .nils, .nils, .nils, .nils] h fun v6 h => (kstore 6 h v6 v19).bind fun h => n4 k G v2 v3 v6 h
theorem n3_eq (G : KT2 R) (σ : GS) (h : Heap) : KC k 36 c3 σ h (fun x σ h => G x (σ 2) (σ 3) h) = n3 k G (σ 2) (σ 3) (σ 4) h := (kseq (a := c18) (b := c4) rfl (fun σ h => n4_eq k G σ h)).trans (by kernel_rfl)
noncomputable def c19 : Code := cL c2
@[simp] def n2 (G : KT2 R) (v2 v3 v4 v5 : GV) (h : Heap) : Option R := (kun .not v5).bind fun v16 => kcond v16 ((gfill (fun i => [(0, 3), (3, 1), (4, 1), (5, 1)][i]?) [.nils, .nils, .nils, .nils, .nils, .nils] []).bind fun c => kagg c h fun v17 h => (kstore 6 h v2 v17).bind fun h => G .ret v2 (.bool false) h) (n3 k G v2 v3 v4 h)
theorem n2_eq (G : KT2 R) (σ : GS) (h : Heap) : KC k 36 c2 σ h (fun x σ h => G x (σ 2) (σ 3) h) = n2 k G (σ 2) (σ 3) (σ 4) (σ 5) h := (kseq (a := c19) (b := c3) rfl (fun σ h => n3_eq k G σ h)).trans (by kernel_rfl)
noncomputable def c20 : Code := cL c1
@[simp] def n1 (G : KT2 R) (v0 v2 v3 : GV) (h : Heap) : Option R := (kF false HH fn.impl_NewChain [v0] h).bind fun r => kr r fun v12 h => (kxt 0 v12).bind fun v13 => (kxt 1 v12).bind fun v14 => kalloc [.nils, .nils, .nils] h fun v4 h => (kstore 3 h v4 v13).bind fun h => n2 k G v2 v3 v4 v14 h
theorem n1_eq (G : KT2 R) (σ : GS) (h : Heap) : KC k 36 c1 σ h (fun x σ h => G x (σ 2) (σ 3) h) = n1 k G (σ 0) (σ 2) (σ 3) h := (kseq (a := c20) (b := c2) rfl (fun σ h => n2_eq k G σ h)).trans (by kernel_rfl)
noncomputable def c21 : Code := cL c0
@[simp] def n0 (G : KT2 R) (v0 : GV) (h : Heap) : Option R := kalloc [.nils, .nils, .nils, .nils, .nils, .nils] h fun v2 h => n1 k G v0 v2 (.bool false) h
theorem n0_eq (G : KT2 R) (σ : GS) (h : Heap) : KC k 36 c0 σ h (fun x σ h => G x (σ 2) (σ 3) h) = n0 k G (σ 0) h := (kseq (a := c21) (b := c1) rfl (fun σ h => n1_eq k G σ h)).trans (by kernel_rfl)
def run {R : Type} (k : Nat) (a0 : GV) (h : Heap) (fin : GV → Heap → Option R) : Option R := n0 k (fun x v2 v3 h => kend x ((kloadA 6 h v2).bind fun w2 => fin (.tup [w2, v3]) h)) a0 h
theorem run_eq {R : Type} (k : Nat) (a0 : GV) (h : Heap) (fin : GV → Heap → Option R) : kfun PP cfg NN HH k fn.impl_NewWorld [a0] h fin = run k a0 h fin := (kfun_eq (nt := 36) (c := c0) (show PP.funcs[fn.impl_NewWorld]? = some Try.f53 by kernel_rfl) (by kernel_rfl) (by kernel_rfl) (fun x σ h => by cases x <;> kernel_rfl)).trans (n0_eq k (fun x v2 v3 h => kend x ((kloadA 6 h v2).bind fun w2 => fin (.tup [w2, v3]) h)) _ h)
theorem gives {k : Nat} {a0 : GV} {b : Nat} {q : GV × List (List GV)} (e : run k a0 [] (finO b) = some q) : OO fn.impl_NewWorld [a0] b = some q := oω_of ((run_eq k a0 [] (finO b)).trans e)
end S.impl_NewWorld
/-! spec_NewWorld -/
namespace S.spec_NewWorld
noncomputable def c0 : Code := bodyOf Try.f52
@[simp] def n0 {R : Type} (k : Nat) (G : KT2 R) (v0 : GV) (h : Heap) : Option R := kalloc [.nils, .nils, .nils, .nils, .nils, .nils] h fun v2 h => (kN NN fn.spec_NewChain [v0] h).bind fun v8 => (kxt 0 v8).bind fun v9 => (kxt 1 v8).bind fun v10 => kalloc [.nils, .nils, .nils] h fun v4 h => (kstore 3 h v4 v9).bind fun h => (kun .not v10).bind fun v12 => kcond v12 ((gfill (fun i => [(0, 3), (3, 1), (4, 1), (5, 1)][i]?) [.nils, .nils, .nils, .nils, .nils, .nils] []).bind fun c => kagg c h fun v13 h => (kstore 6 h v2 v13).bind fun h => G .ret v2 (.bool false) h) ((kloadA 3 h v4).bind fun v14 => (kF false HH fn.spec_l19New [(.int .i64 0)] h).bind fun r => kr r fun v15 h => (kF false HH fn.spec_l19New [(.int .i64 1)] h).bind fun r => kr r fun v16 h => (gfill (fun i => some (i * 9, 9)) (zeros [(.int .i64 0), .nils, (.int .i64 0), (.int .i64 0), .nils, (.int .i64 0), (.int .i64 0), .nils, (.int .i64 0)] 2) [(0, v15), (1, v16)]).bind fun c => kbs 2 9 c h fun v17 h => (gfill (fun i => [(0, 3), (3, 1), (4, 1), (5, 1)][i]?) [.nils, .nils, .nils, .nils, .nils, .nils] [(0, v14), (1, v17)]).bind fun c => kagg c h fun v18 h => (kstore 6 h v2 v18).bind fun h => G .ret v2 (.bool true) h)
theorem n0_eq (G : KT2 R) (σ : GS) (h : Heap) : KC k 19 c0 σ h (fun x σ h => G x (σ 2) (σ 3) h) = n0 k G (σ 0) h := by kernel_rfl
def run {R : Type} (k : Nat) (a0 : GV) (h : Heap) (fin : GV → Heap → Option R) : Option R := n0 k (fun x v2 v3 h => kend x ((kloadA 6 h v2).bind fun w2 => fin (.tup [w2, v3]) h)) a0 h
theorem run_eq {R : Type} (k : Nat) (a0 : GV) (h : Heap) (fin : GV → Heap → Option R) : kfun PP cfg NN HH k fn.spec_NewWorld [a0] h fin = run k a0 h fin := (kfun_eq (nt := 19) (c := c0) (show PP.funcs[fn.spec_NewWorld]? = some Try.f52 by kernel_rfl) (by kernel_rfl) (by kernel_rfl) (fun x σ h => by cases x <;> kernel_rfl)).trans (n0_eq k (fun x v2 v3 h => kend x ((kloadA 6 h v2).bind fun w2 => fin (.tup [w2, v3]) h)) _ h)
theorem gives {k : Nat} {a0 : GV} {v : GV} (e : run k a0 [] finN = some v) : NN fn.spec_NewWorld [a0] = some v := nω_of (by kernel_rfl) ((run_eq k a0 [] finN).trans e)
end S.spec_NewWorld
end
end Go.Proofs.Ytlbnioapepelnaa.G
