/- A parser of runes, in plain Lean: what a rune does to it. What these functions do, told for open values, out of the machine with continuations. Printed by a program of this session. -/
import Derived.Test.YtlbnioapepelnaaZfe0b0506
import Derived.KernelRfl
namespace Go.Proofs.Ytlbnioapepelnaa.G
open Go.RowKit
set_option linter.unusedVariables false
set_option linter.unusedSimpArgs false

abbrev ParserT := Int × List Int × Int × List Int
abbrev ActionT := Int × Int × List Int × Int × List Int
def parserB (p : ParserT) : Bool :=
  inB p.1 1 5 && (decide (p.2.1.length ≤ 16) && p.2.1.all fun n => inB n 0 9999) && (decide (p.2.2.1 = 0) || decide (p.2.2.1 = 63)) && (decide (p.2.2.2.length ≤ 40) && p.2.2.2.all runeB) &&
  (decide (p.1 = 3) || decide (p.2.1.length = 0) && decide (p.2.2.1 = 0)) && (decide (4 ≤ p.1) || decide (p.2.2.2.length = 0))
abbrev st0 (s : Int) : ParserT := (s, [], 0, [])
def nz (l : List Int) : List Int := if l.length = 0 then [0] else l
def setLast (l : List Int) (v : Int) : List Int := l.set (l.length - 1) v
def digM (p : ParserT) (r : Int) : ParserT := (p.1, setLast (nz p.2.1) (min ((nz p.2.1)[(nz p.2.1).length - 1]?.getD 0 * 10 + r - 48) 9999), p.2.2.1, p.2.2.2)
def sepM (p : ParserT) : ParserT := (p.1, if (nz p.2.1).length < 16 then nz p.2.1 ++ [0] else nz p.2.1, p.2.2.1, p.2.2.2)
def moreM (p : ParserT) (r : Int) : ParserT × List ActionT :=
  if r = 63 ∧ p.2.1.length = 0 ∧ p.2.2.1 = 0 then ((p.1, p.2.1, 63, p.2.2.2), [])
  else if inB r 48 57 = true then (digM p r, [])
  else if r = 59 then (sepM p, [])
  else (st0 1, if inB r 64 126 = true then [(4, r, p.2.1, p.2.2.1, [])] else [])
def endedM (p : ParserT) (r : Int) : ParserT × List ActionT := (st0 1, if r = 92 then [(5, 0, [], 0, p.2.2.2)] else [])
def titleM (p : ParserT) (r : Int) : ParserT × List ActionT :=
  if r = 7 then endedM p 92 else if r = 27 then ((5, p.2.1, p.2.2.1, p.2.2.2), []) else if p.2.2.2.length < 40 then ((p.1, p.2.1, p.2.2.1, p.2.2.2 ++ [r]), []) else (p, [])
def escM (r : Int) : ParserT × List ActionT :=
  if r = 91 then (st0 3, []) else if r = 93 then (st0 4, []) else (st0 1, if inB r 48 126 = true then [(3, r, [], 0, [])] else [])
def stepM (p : ParserT) (r : Int) : ParserT × List ActionT :=
  if p.1 = 4 then titleM p r else if p.1 = 5 then endedM p r else if r = 27 then (st0 2, []) else if r = 24 ∨ r = 26 then (st0 1, [])
  else if r < 32 ∨ r = 127 then (p, [(2, r, [], 0, [])]) else if p.1 = 2 then escM r else if p.1 = 3 then moreM p r
  else (p, if 0 < widthM r then [(1, r, [], 0, [])] else [])
/-- A list of runes. -/
def runM : List Int → ParserT → ParserT × List ActionT
  | [], p => (p, [])
  | r :: l, p => ((runM l (stepM p r).1).1, (stepM p r).2 ++ (runM l (stepM p r).1).2)
theorem runM_append : ∀ (l m : List Int) (p : ParserT), runM (l ++ m) p = ((runM m (runM l p).1).1, (runM l p).2 ++ (runM m (runM l p).1).2)
  | [], m, p => by simp [runM]
  | r :: l, m, p => by
    simp only [List.cons_append, runM]
    rw [runM_append l m]
    simp
theorem runM_snoc (l : List Int) (r : Int) (p : ParserT) : runM (l ++ [r]) p = ((stepM (runM l p).1 r).1, (runM l p).2 ++ (stepM (runM l p).1 r).2) := by
  rw [runM_append]; simp [runM]
/-- What is given: nothing, if it is not right. -/
def parsedM (p : ParserT) (l : List Int) : ParserT × List ActionT := if (parserB p && l.all runeB) = true then runM l p else ((0, [], 0, []), [])
def parsed2M (p : ParserT) (l : List Int) : ParserT × List ActionT := if l.length ≤ 2000 then parsedM p l else ((0, [], 0, []), [])

theorem parserB_iff {p : ParserT} : parserB p = true ↔ (1 ≤ p.1 ∧ p.1 ≤ 5) ∧ (p.2.1.length ≤ 16 ∧ ∀ n ∈ p.2.1, 0 ≤ n ∧ n ≤ 9999) ∧ (p.2.2.1 = 0 ∨ p.2.2.1 = 63) ∧ (p.2.2.2.length ≤ 40 ∧ ∀ r ∈ p.2.2.2, runeB r = true) ∧ (p.1 = 3 ∨ p.2.1.length = 0 ∧ p.2.2.1 = 0) ∧ (4 ≤ p.1 ∨ p.2.2.2.length = 0) := by
  unfold parserB
  simp only [Bool.and_eq_true, Bool.or_eq_true, decide_eq_true_eq, List.all_eq_true, inB_iff, and_assoc]
theorem st0_ok {s : Int} (h : 1 ≤ s ∧ s ≤ 5) : parserB (st0 s) = true := by
  rw [parserB_iff]
  refine ⟨h, ⟨by simp, by simp⟩, Or.inl rfl, ⟨by simp, by simp⟩, Or.inr ⟨rfl, rfl⟩, Or.inr rfl⟩
theorem nz_len (l : List Int) : 0 < (nz l).length ∧ ((nz l).length ≤ l.length ∨ (nz l).length = 1) := by
  unfold nz; split
  · exact ⟨by simp, Or.inr rfl⟩
  · exact ⟨by omega, Or.inl (Nat.le_refl _)⟩
theorem nz_ok {l : List Int} (h : ∀ n ∈ l, 0 ≤ n ∧ n ≤ 9999) : ∀ n ∈ nz l, 0 ≤ n ∧ n ≤ 9999 := by
  unfold nz; split
  · intro n hn; simp at hn; omega
  · exact h
theorem nz_last {l : List Int} (h : ∀ n ∈ l, 0 ≤ n ∧ n ≤ 9999) : 0 ≤ (nz l)[(nz l).length - 1]?.getD 0 ∧ (nz l)[(nz l).length - 1]?.getD 0 ≤ 9999 := by
  have := (nz_len l).1
  have hh : (nz l).length - 1 < (nz l).length := by omega
  rw [List.getElem?_eq_getElem hh]
  exact nz_ok h _ (List.getElem_mem hh)
theorem moreM_ok {p : ParserT} {r : Int} (h : parserB p = true) (h3 : p.1 = 3) : parserB (moreM p r).1 = true := by
  unfold moreM
  have h0 := parserB_iff.1 h
  obtain ⟨a1, ⟨a2, a3⟩, a4, a5, a6, a7⟩ := h0
  split
  · rw [parserB_iff]
    exact ⟨a1, ⟨a2, a3⟩, Or.inr rfl, a5, Or.inl h3, a7⟩
  · split
    · rename_i hr
      rw [inB_iff] at hr
      rw [parserB_iff]
      refine ⟨a1, ⟨?_, ?_⟩, a4, a5, Or.inl h3, a7⟩
      · show (setLast _ _).length ≤ 16
        unfold setLast; rw [List.length_set]
        have := nz_len p.2.1; omega
      · intro n hn
        rcases List.mem_or_eq_of_mem_set hn with hn | rfl
        · exact nz_ok a3 n hn
        · have := nz_last a3
          omega
    · split
      · rw [parserB_iff]
        refine ⟨a1, ?_, a4, a5, Or.inl h3, a7⟩
        show (sepM p).2.1.length ≤ 16 ∧ ∀ n ∈ (sepM p).2.1, 0 ≤ n ∧ n ≤ 9999
        unfold sepM
        simp only
        split
        · refine ⟨by rw [List.length_append]; simp; omega, fun n hn => ?_⟩
          rcases List.mem_append.1 hn with hn | hn
          · exact nz_ok a3 n hn
          · simp at hn; omega
        · refine ⟨?_, nz_ok a3⟩
          have := nz_len p.2.1; omega
      · exact st0_ok (by omega)
theorem stepM_ok {p : ParserT} {r : Int} (h : parserB p = true) (hr : runeB r = true) : parserB (stepM p r).1 = true := by
  have h0 := parserB_iff.1 h
  obtain ⟨a1, ⟨a2, a3⟩, a4, a5, a6, a7⟩ := h0
  unfold stepM
  split
  · rename_i h4
    unfold titleM endedM
    split
    · exact st0_ok (by omega)
    · split
      · rw [parserB_iff]
        exact ⟨by simp, ⟨a2, a3⟩, a4, a5, Or.inr (by simp only; rcases a6 with h | h; omega; exact h), Or.inl (by simp)⟩
      · split
        · rw [parserB_iff]
          refine ⟨a1, ⟨a2, a3⟩, a4, ⟨?_, fun n hn => ?_⟩, a6, Or.inl (by simp only; omega)⟩
          · rw [List.length_append]; simp; omega
          · rcases List.mem_append.1 hn with hn | hn
            · exact a5.2 n hn
            · simp at hn; rw [hn]; exact hr
        · exact h
  · split
    · exact st0_ok (by omega)
    · split
      · exact st0_ok (by omega)
      · split
        · exact st0_ok (by omega)
        · split
          · exact h
          · split
            · unfold escM
              split
              · exact st0_ok (by omega)
              · split <;> exact st0_ok (by omega)
            · split
              · rename_i h3
                exact moreM_ok h h3
              · exact h
theorem runM_ok : ∀ (l : List Int) {p : ParserT}, parserB p = true → l.all runeB = true → parserB (runM l p).1 = true
  | [], p, h, _ => h
  | r :: l, p, h, hl => by
    rw [List.all_cons, Bool.and_eq_true] at hl
    exact runM_ok l (stepM_ok h hl.1) hl.2
theorem stepM_one (p : ParserT) (r : Int) : (stepM p r).2.length ≤ 1 := by
  have h0 : ∀ (q : ParserT) (c : Prop) [Decidable c] (a : ActionT), ((q, if c then [a] else []) : ParserT × List ActionT).2.length ≤ 1 := fun q c _ a => by
    simp only; split <;> simp
  have h1 : ∀ q : ParserT, ((q, []) : ParserT × List ActionT).2.length ≤ 1 := fun q => by simp
  unfold stepM
  split
  · unfold titleM endedM
    split
    · exact h0 ..
    · split
      · exact h1 _
      · split <;> exact h1 _
  · split
    · exact h0 ..
    · split
      · exact h1 _
      · split
        · exact h1 _
        · split
          · simp
          · split
            · unfold escM
              split
              · exact h1 _
              · split
                · exact h1 _
                · exact h0 ..
            · split
              · unfold moreM
                split
                · exact h1 _
                · split
                  · exact h1 _
                  · split
                    · exact h1 _
                    · exact h0 ..
              · exact h0 ..
theorem runM_len : ∀ (l : List Int) (p : ParserT), (runM l p).2.length ≤ l.length
  | [], p => by simp [runM]
  | r :: l, p => by
    have := runM_len l (stepM p r).1
    have := stepM_one p r
    simp only [runM, List.length_append, List.length_cons]
    omega
end Go.Proofs.Ytlbnioapepelnaa.G

namespace Go.Proofs.Ytlbnioapepelnaa.G
open Go.RowKit
set_option linter.unusedVariables false
set_option maxRecDepth 100000
noncomputable section
variable {R : Type} (k : Nat)
/-! laws_szParser -/
namespace S.laws_szParser
noncomputable def c0 : Code := bodyOf Try.f62
@[simp] def n0 {R : Type} (k : Nat) (G : KT1 R) (v0 v1 : GV) (h : Heap) : Option R := kbox v0 h fun v2 h => (kfa 1 v2).bind fun v5 => (kload1 h v5).bind fun v6 => (kN NN fn.laws_szInt64S [v6, v1] h).bind fun v8 => (kbin .lss v8 (.int .i64 0)).bind fun v10 => kcond v10 (G .ret (.int .i64 (-1)) h) ((kfa 3 v2).bind fun v11 => (kload1 h v11).bind fun v12 => (kN NN fn.laws_szInt64S [v12, v8] h).bind fun v14 => (kbin .lss v14 (.int .i64 0)).bind fun v16 => kcond v16 (G .ret (.int .i64 (-1)) h) (G .ret v14 h))
theorem n0_eq (G : KT1 R) (σ : GS) (h : Heap) : KC k 18 c0 σ h (fun x σ h => G x (σ 4) h) = n0 k G (σ 0) (σ 1) h := by kernel_rfl
def run {R : Type} (k : Nat) (a0 : GV) (a1 : GV) (h : Heap) (fin : GV → Heap → Option R) : Option R := n0 k (fun x v4 h => kend x (fin v4 h)) a0 a1 h
theorem run_eq {R : Type} (k : Nat) (a0 : GV) (a1 : GV) (h : Heap) (fin : GV → Heap → Option R) : kfun PP cfg NN HH k fn.laws_szParser [a0, a1] h fin = run k a0 a1 h fin := (kfun_eq (nt := 18) (c := c0) (show PP.funcs[fn.laws_szParser]? = some Try.f62 by kernel_rfl) (by kernel_rfl) (by kernel_rfl) (fun x σ h => by cases x <;> kernel_rfl)).trans (n0_eq k (fun x v4 h => kend x (fin v4 h)) _ h)
theorem gives {k : Nat} {a0 : GV} {a1 : GV} {v : GV} (e : run k a0 a1 [] finN = some v) : NN fn.laws_szParser [a0, a1] = some v := nω_of (by kernel_rfl) ((run_eq k a0 a1 [] finN).trans e)
end S.laws_szParser
/-! laws_toParser -/
namespace S.laws_toParser
noncomputable def c0 : Code := bodyOf Try.f64
@[simp] def n0 {R : Type} (k : Nat) (G : KT1 R) (v0 : GV) (h : Heap) : Option R := kbox v0 h fun v1 h => kalloc [(.int .i64 0), .nils, (.int .i64 0), .nils] h fun v2 h => kalloc [(.int .i64 0), .nils, (.int .i64 0), .nils] h fun v3 h => (kfa 0 v1).bind fun v4 => (kload1 h v4).bind fun v5 => (kfa 0 v3).bind fun v6 => (kstore 1 h v6 v5).bind fun h => (kfa 1 v1).bind fun v7 => (kload1 h v7).bind fun v8 => (kF false HH fn.laws_toInt64S [v8] h).bind fun r => kr r fun v9 h => (kfa 1 v3).bind fun v10 => (kstore 1 h v10 v9).bind fun h => (kfa 2 v1).bind fun v11 => (kload1 h v11).bind fun v12 => (kfa 2 v3).bind fun v13 => (kstore 1 h v13 v12).bind fun h => (kfa 3 v1).bind fun v14 => (kload1 h v14).bind fun v15 => (kF false HH fn.laws_toInt64S [v15] h).bind fun r => kr r fun v16 h => (kfa 3 v3).bind fun v17 => (kstore 1 h v17 v16).bind fun h => (kloadA 4 h v3).bind fun v18 => (kstore 4 h v2 v18).bind fun h => G .ret v2 h
theorem n0_eq (G : KT1 R) (σ : GS) (h : Heap) : KC k 19 c0 σ h (fun x σ h => G x (σ 2) h) = n0 k G (σ 0) h := by kernel_rfl
def run {R : Type} (k : Nat) (a0 : GV) (h : Heap) (fin : GV → Heap → Option R) : Option R := n0 k (fun x v2 h => kend x ((kloadA 4 h v2).bind fun w2 => fin w2 h)) a0 h
theorem run_eq {R : Type} (k : Nat) (a0 : GV) (h : Heap) (fin : GV → Heap → Option R) : kfun PP cfg NN HH k fn.laws_toParser [a0] h fin = run k a0 h fin := (kfun_eq (nt := 19) (c := c0) (show PP.funcs[fn.laws_toParser]? = some Try.f64 by kernel_rfl) (by kernel_rfl) (by kernel_rfl) (fun x σ h => by cases x <;> kernel_rfl)).trans (n0_eq k (fun x v2 h => kend x ((kloadA 4 h v2).bind fun w2 => fin w2 h)) _ h)
theorem gives {k : Nat} {a0 : GV} {b : Nat} {q : GV × List (List GV)} (e : run k a0 [] (finO b) = some q) : OO fn.laws_toParser [a0] b = some q := oω_of ((run_eq k a0 [] (finO b)).trans e)
end S.laws_toParser
/-! laws_eqParser -/
namespace S.laws_eqParser
noncomputable def c0 : Code := bodyOf Try.f66
@[simp] def n0 {R : Type} (k : Nat) (G : KT1 R) (v0 v1 : GV) (h : Heap) : Option R := kbox v0 h fun v2 h => kbox v1 h fun v3 h => (kfa 0 v2).bind fun v5 => (kload1 h v5).bind fun v6 => (kfa 0 v3).bind fun v7 => (kload1 h v7).bind fun v8 => (kbin .neq v6 v8).bind fun v9 => kcond v9 (G .ret (.bool false) h) ((kfa 1 v2).bind fun v10 => (kload1 h v10).bind fun v11 => (kfa 1 v3).bind fun v12 => (kload1 h v12).bind fun v13 => (kN NN fn.laws_eqInt64S [v11, v13] h).bind fun v14 => (kun .not v14).bind fun v15 => kcond v15 (G .ret (.bool false) h) ((kfa 2 v2).bind fun v16 => (kload1 h v16).bind fun v17 => (kfa 2 v3).bind fun v18 => (kload1 h v18).bind fun v19 => (kbin .neq v17 v19).bind fun v20 => kcond v20 (G .ret (.bool false) h) ((kfa 3 v2).bind fun v21 => (kload1 h v21).bind fun v22 => (kfa 3 v3).bind fun v23 => (kload1 h v23).bind fun v24 => (kN NN fn.laws_eqInt64S [v22, v24] h).bind fun v25 => (kun .not v25).bind fun v26 => kcond v26 (G .ret (.bool false) h) (G .ret (.bool true) h))))
theorem n0_eq (G : KT1 R) (σ : GS) (h : Heap) : KC k 27 c0 σ h (fun x σ h => G x (σ 4) h) = n0 k G (σ 0) (σ 1) h := by kernel_rfl
def run {R : Type} (k : Nat) (a0 : GV) (a1 : GV) (h : Heap) (fin : GV → Heap → Option R) : Option R := n0 k (fun x v4 h => kend x (fin v4 h)) a0 a1 h
theorem run_eq {R : Type} (k : Nat) (a0 : GV) (a1 : GV) (h : Heap) (fin : GV → Heap → Option R) : kfun PP cfg NN HH k fn.laws_eqParser [a0, a1] h fin = run k a0 a1 h fin := (kfun_eq (nt := 27) (c := c0) (show PP.funcs[fn.laws_eqParser]? = some Try.f66 by kernel_rfl) (by kernel_rfl) (by kernel_rfl) (fun x σ h => by cases x <;> kernel_rfl)).trans (n0_eq k (fun x v4 h => kend x (fin v4 h)) _ h)
theorem gives {k : Nat} {a0 : GV} {a1 : GV} {v : GV} (e : run k a0 a1 [] finN = some v) : NN fn.laws_eqParser [a0, a1] = some v := nω_of (by kernel_rfl) ((run_eq k a0 a1 [] finN).trans e)
end S.laws_eqParser
/-! laws_eqActionS -/
namespace S.laws_eqActionS
noncomputable def c0 : Code := bodyOf Try.f67
noncomputable def c1 : Code := cR c0
noncomputable def c2 : Code := cR c1
noncomputable def c3 : Code := cR c2
@[simp] def n3 {R : Type} (k : Nat) (G : KT1 R) (h : Heap) : Option R := G .ret (.bool true) h
theorem n3_eq (G : KT1 R) (σ : GS) (h : Heap) : KC k 27 c3 σ h (fun x σ h => G x (σ 4) h) = n3 k G h := by kernel_rfl
noncomputable def c4 : Code := cL c2
noncomputable def c5 : Code := cR c4
noncomputable def c6 : Code := cL c5
noncomputable def c7 : Code := cL c6
noncomputable def c8 : Code := cR c7
noncomputable def c9 : Code := cR c8
@[simp] def n9 {R : Type} (k : Nat) (G : KT4 R) (v0 v1 v4 v5 : GV) (h : Heap) : Option R := (kbin .add v5 (.int .i64 1)).bind fun v16 => G .nrm v0 v1 v4 v16 h
theorem n9_eq (G : KT4 R) (σ : GS) (h : Heap) : KC k 27 c9 σ h (fun x σ h => G x (σ 0) (σ 1) (σ 4) (σ 5) h) = n9 k G (σ 0) (σ 1) (σ 4) (σ 5) h := by kernel_rfl
noncomputable def c10 : Code := cL c8
noncomputable def c11 : Code := cL c10
@[simp] def n11 {R : Type} (k : Nat) (G : KT4 R) (v0 v1 v4 v5 : GV) (h : Heap) : Option R := (kia 5 v0 v5).bind fun v19 => (kloadA 5 h v19).bind fun v20 => (kia 5 v1 v5).bind fun v23 => (kloadA 5 h v23).bind fun v24 => (kN NN fn.laws_eqAction [v20, v24] h).bind fun v25 => (kun .not v25).bind fun v26 => kcond v26 (G .ret v0 v1 (.bool false) v5 h) (G .nrm v0 v1 v4 v5 h)
theorem n11_eq (G : KT4 R) (σ : GS) (h : Heap) : KC k 27 c11 σ h (fun x σ h => G x (σ 0) (σ 1) (σ 4) (σ 5) h) = n11 k G (σ 0) (σ 1) (σ 4) (σ 5) h := by kernel_rfl
@[simp] def n10 (G : KT4 R) (v0 v1 v4 v5 : GV) (h : Heap) : Option R := n11 k (fun x v0 v1 v4 v5 h => kb 1 x fun x => G x v0 v1 v4 v5 h) v0 v1 v4 v5 h
theorem n10_eq (G : KT4 R) (σ : GS) (h : Heap) : KC k 27 c10 σ h (fun x σ h => G x (σ 0) (σ 1) (σ 4) (σ 5) h) = n10 k G (σ 0) (σ 1) (σ 4) (σ 5) h := (kblock_eq (a := c11) rfl).trans (n11_eq k (fun x v0 v1 v4 v5 h => kb 1 x fun x => G x v0 v1 v4 v5 h) σ h)
@[simp] def n8 (G : KT4 R) (v0 v1 v4 v5 : GV) (h : Heap) : Option R := n10 k (fun x v0 v1 v4 v5 h => kx x (n9 k G v0 v1 v4 v5 h) (G x v0 v1 v4 v5 h)) v0 v1 v4 v5 h
theorem n8_eq (G : KT4 R) (σ : GS) (h : Heap) : KC k 27 c8 σ h (fun x σ h => G x (σ 0) (σ 1) (σ 4) (σ 5) h) = n8 k G (σ 0) (σ 1) (σ 4) (σ 5) h := (kseq (b := c9) rfl (fun σ h => n9_eq k G σ h)).trans (n10_eq k (fun x v0 v1 v4 v5 h => kx x (n9 k G v0 v1 v4 v5 h) (G x v0 v1 v4 v5 h)) σ h)
noncomputable def c12 : Code := cL c7
@[simp] def n7 (G : KT4 R) (v0 v1 v4 v5 : GV) (h : Heap) : Option R := (klen v0).bind fun v13 => (kbin .lss v5 v13).bind fun v14 => kcond v14 (n8 k G v0 v1 v4 v5 h) (G (.ext 0) v0 v1 v4 v5 h)
theorem n7_eq (G : KT4 R) (σ : GS) (h : Heap) : KC k 27 c7 σ h (fun x σ h => G x (σ 0) (σ 1) (σ 4) (σ 5) h) = n7 k G (σ 0) (σ 1) (σ 4) (σ 5) h := (kseq (a := c12) (b := c8) rfl (fun σ h => n8_eq k G σ h)).trans (by kernel_rfl)
def l6 {R : Type} (k : Nat) (G : KT1 R) : Nat → GV → GV → GV → GV → Heap → Option R
  | 0, _, _, _, _, _ => none
  | r + 1, v0, v1, v4, v5, h => n7 k (fun x v0 v1 v4 v5 h => kx x (l6 k G r v0 v1 v4 v5 h) (G x v4 h)) v0 v1 v4 v5 h
theorem l6_eq {R : Type} (k : Nat) (G : KT1 R) : ∀ (r : Nat) (σ : GS) (h : Heap), kloop (fun σ h K => KC k 27 c7 σ h K) r σ h (fun x σ h => G x (σ 4) h) = l6 k G r (σ 0) (σ 1) (σ 4) (σ 5) h
  | 0, _, _ => rfl
  | r + 1, σ, h => (kloop_eq (fun σ h => l6_eq k G r σ h)).trans (n7_eq k (fun x v0 v1 v4 v5 h => kx x (l6 k G r v0 v1 v4 v5 h) (G x v4 h)) σ h)
@[simp] def n6 (G : KT1 R) (v0 v1 v4 v5 : GV) (h : Heap) : Option R := l6 k G k v0 v1 v4 v5 h
theorem n6_eq (G : KT1 R) (σ : GS) (h : Heap) : KC k 27 c6 σ h (fun x σ h => G x (σ 4) h) = n6 k G (σ 0) (σ 1) (σ 4) (σ 5) h := (kloopc_eq (a := c7) rfl).trans (l6_eq k G k σ h)
@[simp] def n5 (G : KT1 R) (v0 v1 v4 v5 : GV) (h : Heap) : Option R := n6 k (fun x v4 h => kb 0 x fun x => G x v4 h) v0 v1 v4 v5 h
theorem n5_eq (G : KT1 R) (σ : GS) (h : Heap) : KC k 27 c5 σ h (fun x σ h => G x (σ 4) h) = n5 k G (σ 0) (σ 1) (σ 4) (σ 5) h := (kblock_eq (a := c6) rfl).trans (n6_eq k (fun x v4 h => kb 0 x fun x => G x v4 h) σ h)
noncomputable def c13 : Code := cL c4
@[simp] def n4 (G : KT1 R) (v0 v1 v4 : GV) (h : Heap) : Option R := n5 k G v0 v1 v4 (.int .i64 0) h
theorem n4_eq (G : KT1 R) (σ : GS) (h : Heap) : KC k 27 c4 σ h (fun x σ h => G x (σ 4) h) = n4 k G (σ 0) (σ 1) (σ 4) h := (kseq (a := c13) (b := c5) rfl (fun σ h => n5_eq k G σ h)).trans (by kernel_rfl)
@[simp] def n2 (G : KT1 R) (v0 v1 v4 : GV) (h : Heap) : Option R := n4 k (fun x v4 h => kx x (n3 k G h) (G x v4 h)) v0 v1 v4 h
theorem n2_eq (G : KT1 R) (σ : GS) (h : Heap) : KC k 27 c2 σ h (fun x σ h => G x (σ 4) h) = n2 k G (σ 0) (σ 1) (σ 4) h := (kseq (b := c3) rfl (fun σ h => n3_eq k G σ h)).trans (n4_eq k (fun x v4 h => kx x (n3 k G h) (G x v4 h)) σ h)
noncomputable def c14 : Code := cL c1
@[simp] def n1 (G : KT1 R) (v0 v1 v4 : GV) (h : Heap) : Option R := (klen v0).bind fun v7 => (klen v1).bind fun v9 => (kbin .neq v7 v9).bind fun v10 => kcond v10 (G .ret (.bool false) h) (n2 k G v0 v1 v4 h)
theorem n1_eq (G : KT1 R) (σ : GS) (h : Heap) : KC k 27 c1 σ h (fun x σ h => G x (σ 4) h) = n1 k G (σ 0) (σ 1) (σ 4) h := (kseq (a := c14) (b := c2) rfl (fun σ h => n2_eq k G σ h)).trans (by kernel_rfl)
noncomputable def c15 : Code := cL c0
@[simp] def n0 (G : KT1 R) (v0 v1 : GV) (h : Heap) : Option R := n1 k G v0 v1 (.bool false) h
theorem n0_eq (G : KT1 R) (σ : GS) (h : Heap) : KC k 27 c0 σ h (fun x σ h => G x (σ 4) h) = n0 k G (σ 0) (σ 1) h := (kseq (a := c15) (b := c1) rfl (fun σ h => n1_eq k G σ h)).trans (by kernel_rfl)
def run {R : Type} (k : Nat) (a0 : GV) (a1 : GV) (h : Heap) (fin : GV → Heap → Option R) : Option R := n0 k (fun x v4 h => kend x (fin v4 h)) a0 a1 h
theorem run_eq {R : Type} (k : Nat) (a0 : GV) (a1 : GV) (h : Heap) (fin : GV → Heap → Option R) : kfun PP cfg NN HH k fn.laws_eqActionS [a0, a1] h fin = run k a0 a1 h fin := (kfun_eq (nt := 27) (c := c0) (show PP.funcs[fn.laws_eqActionS]? = some Try.f67 by kernel_rfl) (by kernel_rfl) (by kernel_rfl) (fun x σ h => by cases x <;> kernel_rfl)).trans (n0_eq k (fun x v4 h => kend x (fin v4 h)) _ h)
theorem gives {k : Nat} {a0 : GV} {a1 : GV} {v : GV} (e : run k a0 a1 [] finN = some v) : NN fn.laws_eqActionS [a0, a1] = some v := nω_of (by kernel_rfl) ((run_eq k a0 a1 [] finN).trans e)
end S.laws_eqActionS
/-! laws_markParser -/
namespace S.laws_markParser
noncomputable def c0 : Code := bodyOf Try.f68
@[simp] def n0 {R : Type} (k : Nat) (G : KT1 R) (v0 v1 : GV) (h : Heap) : Option R := kbox v0 h fun v2 h => (kfa 1 v2).bind fun v5 => (kload1 h v5).bind fun v6 => (HH fn.laws_markInt64S [v6, v1] h).bind fun r => kr r fun v8 h => (kfa 3 v2).bind fun v9 => (kload1 h v9).bind fun v10 => (HH fn.laws_markInt64S [v10, v8] h).bind fun r => kr r fun v12 h => G .ret v12 h
theorem n0_eq (G : KT1 R) (σ : GS) (h : Heap) : KC k 14 c0 σ h (fun x σ h => G x (σ 4) h) = n0 k G (σ 0) (σ 1) h := by kernel_rfl
def run {R : Type} (k : Nat) (a0 : GV) (a1 : GV) (h : Heap) (fin : GV → Heap → Option R) : Option R := n0 k (fun x v4 h => kend x (fin v4 h)) a0 a1 h
theorem run_eq {R : Type} (k : Nat) (a0 : GV) (a1 : GV) (h : Heap) (fin : GV → Heap → Option R) : kfun PP cfg NN HH k fn.laws_markParser [a0, a1] h fin = run k a0 a1 h fin := (kfun_eq (nt := 14) (c := c0) (show PP.funcs[fn.laws_markParser]? = some Try.f68 by kernel_rfl) (by kernel_rfl) (by kernel_rfl) (fun x σ h => by cases x <;> kernel_rfl)).trans (n0_eq k (fun x v4 h => kend x (fin v4 h)) _ h)
theorem gives {k : Nat} {a0 : GV} {a1 : GV} {h : Heap} {r : GV × Heap} (e : run k a0 a1 h finH = some r) : HH fn.laws_markParser [a0, a1] h = some r := kω_of ((run_eq k a0 a1 h finH).trans e)
end S.laws_markParser
/-! laws_markActionS -/
namespace S.laws_markActionS
noncomputable def c0 : Code := bodyOf Try.f69
noncomputable def c1 : Code := cR c0
noncomputable def c2 : Code := cR c1
@[simp] def n2 {R : Type} (k : Nat) (G : KT1 R) (v1 : GV) (h : Heap) : Option R := G .ret v1 h
theorem n2_eq (G : KT1 R) (σ : GS) (h : Heap) : KC k 48 c2 σ h (fun x σ h => G x (σ 4) h) = n2 k G (σ 1) h := by kernel_rfl
noncomputable def c3 : Code := cL c1
noncomputable def c4 : Code := cR c3
noncomputable def c5 : Code := cL c4
noncomputable def c6 : Code := cL c5
noncomputable def c7 : Code := cR c6
noncomputable def c8 : Code := cR c7
@[simp] def n8 {R : Type} (k : Nat) (G : KT4 R) (v0 v1 v4 v5 : GV) (h : Heap) : Option R := (kbin .add v5 (.int .i64 1)).bind fun v11 => G .nrm v0 v1 v4 v11 h
theorem n8_eq (G : KT4 R) (σ : GS) (h : Heap) : KC k 48 c8 σ h (fun x σ h => G x (σ 0) (σ 1) (σ 4) (σ 5) h) = n8 k G (σ 0) (σ 1) (σ 4) (σ 5) h := by kernel_rfl
noncomputable def c9 : Code := cL c7
noncomputable def c10 : Code := cL c9
@[simp] def n10 {R : Type} (k : Nat) (G : KT4 R) (v0 v1 v4 v5 : GV) (h : Heap) : Option R := (kia 5 v0 v5).bind fun v15 => (kfa 0 v15).bind fun v16 => (kstore 1 h v16 v1).bind fun h => (kbin .add v1 (.int .i64 1)).bind fun v18 => (kia 5 v0 v5).bind fun v22 => (kfa 1 v22).bind fun v23 => (kstore 1 h v23 v18).bind fun h => (kbin .add v18 (.int .i64 1)).bind fun v25 => (kia 5 v0 v5).bind fun v28 => (kfa 2 v28).bind fun v29 => (kload1 h v29).bind fun v30 => (HH fn.laws_markInt64S [v30, v25] h).bind fun r => kr r fun v32 h => (kia 5 v0 v5).bind fun v36 => (kfa 3 v36).bind fun v37 => (kstore 1 h v37 v32).bind fun h => (kbin .add v32 (.int .i64 1)).bind fun v39 => (kia 5 v0 v5).bind fun v42 => (kfa 4 v42).bind fun v43 => (kload1 h v43).bind fun v44 => (HH fn.laws_markInt64S [v44, v39] h).bind fun r => kr r fun v46 h => G .nrm v0 v46 v4 v5 h
theorem n10_eq (G : KT4 R) (σ : GS) (h : Heap) : KC k 48 c10 σ h (fun x σ h => G x (σ 0) (σ 1) (σ 4) (σ 5) h) = n10 k G (σ 0) (σ 1) (σ 4) (σ 5) h := by kernel_rfl
@[simp] def n9 (G : KT4 R) (v0 v1 v4 v5 : GV) (h : Heap) : Option R := n10 k (fun x v0 v1 v4 v5 h => kb 1 x fun x => G x v0 v1 v4 v5 h) v0 v1 v4 v5 h
theorem n9_eq (G : KT4 R) (σ : GS) (h : Heap) : KC k 48 c9 σ h (fun x σ h => G x (σ 0) (σ 1) (σ 4) (σ 5) h) = n9 k G (σ 0) (σ 1) (σ 4) (σ 5) h := (kblock_eq (a := c10) rfl).trans (n10_eq k (fun x v0 v1 v4 v5 h => kb 1 x fun x => G x v0 v1 v4 v5 h) σ h)
@[simp] def n7 (G : KT4 R) (v0 v1 v4 v5 : GV) (h : Heap) : Option R := n9 k (fun x v0 v1 v4 v5 h => kx x (n8 k G v0 v1 v4 v5 h) (G x v0 v1 v4 v5 h)) v0 v1 v4 v5 h
theorem n7_eq (G : KT4 R) (σ : GS) (h : Heap) : KC k 48 c7 σ h (fun x σ h => G x (σ 0) (σ 1) (σ 4) (σ 5) h) = n7 k G (σ 0) (σ 1) (σ 4) (σ 5) h := (kseq (b := c8) rfl (fun σ h => n8_eq k G σ h)).trans (n9_eq k (fun x v0 v1 v4 v5 h => kx x (n8 k G v0 v1 v4 v5 h) (G x v0 v1 v4 v5 h)) σ h)
noncomputable def c11 : Code := cL c6
@[simp] def n6 (G : KT4 R) (v0 v1 v4 v5 : GV) (h : Heap) : Option R := (klen v0).bind fun v8 => (kbin .lss v5 v8).bind fun v9 => kcond v9 (n7 k G v0 v1 v4 v5 h) (G (.ext 0) v0 v1 v4 v5 h)
theorem n6_eq (G : KT4 R) (σ : GS) (h : Heap) : KC k 48 c6 σ h (fun x σ h => G x (σ 0) (σ 1) (σ 4) (σ 5) h) = n6 k G (σ 0) (σ 1) (σ 4) (σ 5) h := (kseq (a := c11) (b := c7) rfl (fun σ h => n7_eq k G σ h)).trans (by kernel_rfl)
def l5 {R : Type} (k : Nat) (G : KT2 R) : Nat → GV → GV → GV → GV → Heap → Option R
  | 0, _, _, _, _, _ => none
  | r + 1, v0, v1, v4, v5, h => n6 k (fun x v0 v1 v4 v5 h => kx x (l5 k G r v0 v1 v4 v5 h) (G x v1 v4 h)) v0 v1 v4 v5 h
theorem l5_eq {R : Type} (k : Nat) (G : KT2 R) : ∀ (r : Nat) (σ : GS) (h : Heap), kloop (fun σ h K => KC k 48 c6 σ h K) r σ h (fun x σ h => G x (σ 1) (σ 4) h) = l5 k G r (σ 0) (σ 1) (σ 4) (σ 5) h
  | 0, _, _ => rfl
  | r + 1, σ, h => (kloop_eq (fun σ h => l5_eq k G r σ h)).trans (n6_eq k (fun x v0 v1 v4 v5 h => kx x (l5 k G r v0 v1 v4 v5 h) (G x v1 v4 h)) σ h)
@[simp] def n5 (G : KT2 R) (v0 v1 v4 v5 : GV) (h : Heap) : Option R := l5 k G k v0 v1 v4 v5 h
theorem n5_eq (G : KT2 R) (σ : GS) (h : Heap) : KC k 48 c5 σ h (fun x σ h => G x (σ 1) (σ 4) h) = n5 k G (σ 0) (σ 1) (σ 4) (σ 5) h := (kloopc_eq (a := c6) rfl).trans (l5_eq k G k σ h)
@[simp] def n4 (G : KT2 R) (v0 v1 v4 v5 : GV) (h : Heap) : Option R := n5 k (fun x v1 v4 h => kb 0 x fun x => G x v1 v4 h) v0 v1 v4 v5 h
theorem n4_eq (G : KT2 R) (σ : GS) (h : Heap) : KC k 48 c4 σ h (fun x σ h => G x (σ 1) (σ 4) h) = n4 k G (σ 0) (σ 1) (σ 4) (σ 5) h := (kblock_eq (a := c5) rfl).trans (n5_eq k (fun x v1 v4 h => kb 0 x fun x => G x v1 v4 h) σ h)
noncomputable def c12 : Code := cL c3
@[simp] def n3 (G : KT2 R) (v0 v1 v4 : GV) (h : Heap) : Option R := n4 k G v0 v1 v4 (.int .i64 0) h
theorem n3_eq (G : KT2 R) (σ : GS) (h : Heap) : KC k 48 c3 σ h (fun x σ h => G x (σ 1) (σ 4) h) = n3 k G (σ 0) (σ 1) (σ 4) h := (kseq (a := c12) (b := c4) rfl (fun σ h => n4_eq k G σ h)).trans (by kernel_rfl)
@[simp] def n1 (G : KT1 R) (v0 v1 v4 : GV) (h : Heap) : Option R := n3 k (fun x v1 v4 h => kx x (n2 k G v1 h) (G x v4 h)) v0 v1 v4 h
theorem n1_eq (G : KT1 R) (σ : GS) (h : Heap) : KC k 48 c1 σ h (fun x σ h => G x (σ 4) h) = n1 k G (σ 0) (σ 1) (σ 4) h := (kseq (b := c2) rfl (fun σ h => n2_eq k G σ h)).trans (n3_eq k (fun x v1 v4 h => kx x (n2 k G v1 h) (G x v4 h)) σ h)
noncomputable def c13 : Code := cL c0
@[simp] def n0 (G : KT1 R) (v0 v1 : GV) (h : Heap) : Option R := n1 k G v0 v1 (.int .i64 0) h
theorem n0_eq (G : KT1 R) (σ : GS) (h : Heap) : KC k 48 c0 σ h (fun x σ h => G x (σ 4) h) = n0 k G (σ 0) (σ 1) h := (kseq (a := c13) (b := c1) rfl (fun σ h => n1_eq k G σ h)).trans (by kernel_rfl)
def run {R : Type} (k : Nat) (a0 : GV) (a1 : GV) (h : Heap) (fin : GV → Heap → Option R) : Option R := n0 k (fun x v4 h => kend x (fin v4 h)) a0 a1 h
theorem run_eq {R : Type} (k : Nat) (a0 : GV) (a1 : GV) (h : Heap) (fin : GV → Heap → Option R) : kfun PP cfg NN HH k fn.laws_markActionS [a0, a1] h fin = run k a0 a1 h fin := (kfun_eq (nt := 48) (c := c0) (show PP.funcs[fn.laws_markActionS]? = some Try.f69 by kernel_rfl) (by kernel_rfl) (by kernel_rfl) (fun x σ h => by cases x <;> kernel_rfl)).trans (n0_eq k (fun x v4 h => kend x (fin v4 h)) _ h)
theorem gives {k : Nat} {a0 : GV} {a1 : GV} {h : Heap} {r : GV × Heap} (e : run k a0 a1 h finH = some r) : HH fn.laws_markActionS [a0, a1] h = some r := kω_of ((run_eq k a0 a1 h finH).trans e)
end S.laws_markActionS
/-! laws_heldParser -/
namespace S.laws_heldParser
noncomputable def c0 : Code := bodyOf Try.f70
@[simp] def n0 {R : Type} (k : Nat) (G : KT1 R) (v0 v1 : GV) (h : Heap) : Option R := kbox v0 h fun v2 h => (kfa 1 v2).bind fun v5 => (kload1 h v5).bind fun v6 => (kN NN fn.laws_heldInt64S [v6, v1] h).bind fun v8 => (kbin .lss v8 (.int .i64 0)).bind fun v10 => kcond v10 (G .ret (.int .i64 (-1)) h) ((kfa 3 v2).bind fun v11 => (kload1 h v11).bind fun v12 => (kN NN fn.laws_heldInt64S [v12, v8] h).bind fun v14 => (kbin .lss v14 (.int .i64 0)).bind fun v16 => kcond v16 (G .ret (.int .i64 (-1)) h) (G .ret v14 h))
theorem n0_eq (G : KT1 R) (σ : GS) (h : Heap) : KC k 18 c0 σ h (fun x σ h => G x (σ 4) h) = n0 k G (σ 0) (σ 1) h := by kernel_rfl
def run {R : Type} (k : Nat) (a0 : GV) (a1 : GV) (h : Heap) (fin : GV → Heap → Option R) : Option R := n0 k (fun x v4 h => kend x (fin v4 h)) a0 a1 h
theorem run_eq {R : Type} (k : Nat) (a0 : GV) (a1 : GV) (h : Heap) (fin : GV → Heap → Option R) : kfun PP cfg NN HH k fn.laws_heldParser [a0, a1] h fin = run k a0 a1 h fin := (kfun_eq (nt := 18) (c := c0) (show PP.funcs[fn.laws_heldParser]? = some Try.f70 by kernel_rfl) (by kernel_rfl) (by kernel_rfl) (fun x σ h => by cases x <;> kernel_rfl)).trans (n0_eq k (fun x v4 h => kend x (fin v4 h)) _ h)
theorem gives {k : Nat} {a0 : GV} {a1 : GV} {v : GV} (e : run k a0 a1 [] finN = some v) : NN fn.laws_heldParser [a0, a1] = some v := nω_of (by kernel_rfl) ((run_eq k a0 a1 [] finN).trans e)
end S.laws_heldParser
/-! laws_heldActionS -/
namespace S.laws_heldActionS
noncomputable def c0 : Code := bodyOf Try.f71
noncomputable def c1 : Code := cR c0
noncomputable def c2 : Code := cR c1
@[simp] def n2 {R : Type} (k : Nat) (G : KT1 R) (v1 : GV) (h : Heap) : Option R := G .ret v1 h
theorem n2_eq (G : KT1 R) (σ : GS) (h : Heap) : KC k 58 c2 σ h (fun x σ h => G x (σ 4) h) = n2 k G (σ 1) h := by kernel_rfl
noncomputable def c3 : Code := cL c1
noncomputable def c4 : Code := cR c3
noncomputable def c5 : Code := cL c4
noncomputable def c6 : Code := cL c5
noncomputable def c7 : Code := cR c6
noncomputable def c8 : Code := cR c7
@[simp] def n8 {R : Type} (k : Nat) (G : KT4 R) (v0 v1 v4 v5 : GV) (h : Heap) : Option R := (kbin .add v5 (.int .i64 1)).bind fun v11 => G .nrm v0 v1 v4 v11 h
theorem n8_eq (G : KT4 R) (σ : GS) (h : Heap) : KC k 58 c8 σ h (fun x σ h => G x (σ 0) (σ 1) (σ 4) (σ 5) h) = n8 k G (σ 0) (σ 1) (σ 4) (σ 5) h := by kernel_rfl
noncomputable def c9 : Code := cL c7
noncomputable def c10 : Code := cL c9
noncomputable def c11 : Code := cR c10
@[simp] def n11 {R : Type} (k : Nat) (G : KT4 R) (v0 v1 v4 v5 : GV) (h : Heap) : Option R := (kbin .add v1 (.int .i64 1)).bind fun v20 => (kia 5 v0 v5).bind fun v23 => (kfa 1 v23).bind fun v24 => (kload1 h v24).bind fun v25 => (kbin .neq v25 v20).bind fun v27 => kcond v27 (G .ret v0 v20 (.int .i64 (-1)) v5 h) ((kbin .add v20 (.int .i64 1)).bind fun v29 => (kia 5 v0 v5).bind fun v32 => (kfa 2 v32).bind fun v33 => (kload1 h v33).bind fun v34 => (kN NN fn.laws_heldInt64S [v34, v29] h).bind fun v36 => (kbin .lss v36 (.int .i64 0)).bind fun v38 => kcond v38 (G .ret v0 v36 (.int .i64 (-1)) v5 h) ((kia 5 v0 v5).bind fun v41 => (kfa 3 v41).bind fun v42 => (kload1 h v42).bind fun v43 => (kbin .neq v43 v36).bind fun v45 => kcond v45 (G .ret v0 v36 (.int .i64 (-1)) v5 h) ((kbin .add v36 (.int .i64 1)).bind fun v47 => (kia 5 v0 v5).bind fun v50 => (kfa 4 v50).bind fun v51 => (kload1 h v51).bind fun v52 => (kN NN fn.laws_heldInt64S [v52, v47] h).bind fun v54 => (kbin .lss v54 (.int .i64 0)).bind fun v56 => kcond v56 (G .ret v0 v54 (.int .i64 (-1)) v5 h) (G .nrm v0 v54 v4 v5 h))))
theorem n11_eq (G : KT4 R) (σ : GS) (h : Heap) : KC k 58 c11 σ h (fun x σ h => G x (σ 0) (σ 1) (σ 4) (σ 5) h) = n11 k G (σ 0) (σ 1) (σ 4) (σ 5) h := by kernel_rfl
noncomputable def c12 : Code := cL c10
@[simp] def n10 (G : KT4 R) (v0 v1 v4 v5 : GV) (h : Heap) : Option R := (kia 5 v0 v5).bind fun v14 => (kfa 0 v14).bind fun v15 => (kload1 h v15).bind fun v16 => (kbin .neq v16 v1).bind fun v18 => kcond v18 (G .ret v0 v1 (.int .i64 (-1)) v5 h) (n11 k G v0 v1 v4 v5 h)
theorem n10_eq (G : KT4 R) (σ : GS) (h : Heap) : KC k 58 c10 σ h (fun x σ h => G x (σ 0) (σ 1) (σ 4) (σ 5) h) = n10 k G (σ 0) (σ 1) (σ 4) (σ 5) h := (kseq (a := c12) (b := c11) rfl (fun σ h => n11_eq k G σ h)).trans (by kernel_rfl)
@[simp] def n9 (G : KT4 R) (v0 v1 v4 v5 : GV) (h : Heap) : Option R := n10 k (fun x v0 v1 v4 v5 h => kb 1 x fun x => G x v0 v1 v4 v5 h) v0 v1 v4 v5 h
theorem n9_eq (G : KT4 R) (σ : GS) (h : Heap) : KC k 58 c9 σ h (fun x σ h => G x (σ 0) (σ 1) (σ 4) (σ 5) h) = n9 k G (σ 0) (σ 1) (σ 4) (σ 5) h := (kblock_eq (a := c10) rfl).trans (n10_eq k (fun x v0 v1 v4 v5 h => kb 1 x fun x => G x v0 v1 v4 v5 h) σ h)
@[simp] def n7 (G : KT4 R) (v0 v1 v4 v5 : GV) (h : Heap) : Option R := n9 k (fun x v0 v1 v4 v5 h => kx x (n8 k G v0 v1 v4 v5 h) (G x v0 v1 v4 v5 h)) v0 v1 v4 v5 h
theorem n7_eq (G : KT4 R) (σ : GS) (h : Heap) : KC k 58 c7 σ h (fun x σ h => G x (σ 0) (σ 1) (σ 4) (σ 5) h) = n7 k G (σ 0) (σ 1) (σ 4) (σ 5) h := (kseq (b := c8) rfl (fun σ h => n8_eq k G σ h)).trans (n9_eq k (fun x v0 v1 v4 v5 h => kx x (n8 k G v0 v1 v4 v5 h) (G x v0 v1 v4 v5 h)) σ h)
noncomputable def c13 : Code := cL c6
@[simp] def n6 (G : KT4 R) (v0 v1 v4 v5 : GV) (h : Heap) : Option R := (klen v0).bind fun v8 => (kbin .lss v5 v8).bind fun v9 => kcond v9 (n7 k G v0 v1 v4 v5 h) (G (.ext 0) v0 v1 v4 v5 h)
theorem n6_eq (G : KT4 R) (σ : GS) (h : Heap) : KC k 58 c6 σ h (fun x σ h => G x (σ 0) (σ 1) (σ 4) (σ 5) h) = n6 k G (σ 0) (σ 1) (σ 4) (σ 5) h := (kseq (a := c13) (b := c7) rfl (fun σ h => n7_eq k G σ h)).trans (by kernel_rfl)
def l5 {R : Type} (k : Nat) (G : KT2 R) : Nat → GV → GV → GV → GV → Heap → Option R
  | 0, _, _, _, _, _ => none
  | r + 1, v0, v1, v4, v5, h => n6 k (fun x v0 v1 v4 v5 h => kx x (l5 k G r v0 v1 v4 v5 h) (G x v1 v4 h)) v0 v1 v4 v5 h
theorem l5_eq {R : Type} (k : Nat) (G : KT2 R) : ∀ (r : Nat) (σ : GS) (h : Heap), kloop (fun σ h K => KC k 58 c6 σ h K) r σ h (fun x σ h => G x (σ 1) (σ 4) h) = l5 k G r (σ 0) (σ 1) (σ 4) (σ 5) h
  | 0, _, _ => rfl
  | r + 1, σ, h => (kloop_eq (fun σ h => l5_eq k G r σ h)).trans (n6_eq k (fun x v0 v1 v4 v5 h => kx x (l5 k G r v0 v1 v4 v5 h) (G x v1 v4 h)) σ h)
@[simp] def n5 (G : KT2 R) (v0 v1 v4 v5 : GV) (h : Heap) : Option R := l5 k G k v0 v1 v4 v5 h
theorem n5_eq (G : KT2 R) (σ : GS) (h : Heap) : KC k 58 c5 σ h (fun x σ h => G x (σ 1) (σ 4) h) = n5 k G (σ 0) (σ 1) (σ 4) (σ 5) h := (kloopc_eq (a := c6) rfl).trans (l5_eq k G k σ h)
@[simp] def n4 (G : KT2 R) (v0 v1 v4 v5 : GV) (h : Heap) : Option R := n5 k (fun x v1 v4 h => kb 0 x fun x => G x v1 v4 h) v0 v1 v4 v5 h
theorem n4_eq (G : KT2 R) (σ : GS) (h : Heap) : KC k 58 c4 σ h (fun x σ h => G x (σ 1) (σ 4) h) = n4 k G (σ 0) (σ 1) (σ 4) (σ 5) h := (kblock_eq (a := c5) rfl).trans (n5_eq k (fun x v1 v4 h => kb 0 x fun x => G x v1 v4 h) σ h)
noncomputable def c14 : Code := cL c3
@[simp] def n3 (G : KT2 R) (v0 v1 v4 : GV) (h : Heap) : Option R := n4 k G v0 v1 v4 (.int .i64 0) h
theorem n3_eq (G : KT2 R) (σ : GS) (h : Heap) : KC k 58 c3 σ h (fun x σ h => G x (σ 1) (σ 4) h) = n3 k G (σ 0) (σ 1) (σ 4) h := (kseq (a := c14) (b := c4) rfl (fun σ h => n4_eq k G σ h)).trans (by kernel_rfl)
@[simp] def n1 (G : KT1 R) (v0 v1 v4 : GV) (h : Heap) : Option R := n3 k (fun x v1 v4 h => kx x (n2 k G v1 h) (G x v4 h)) v0 v1 v4 h
theorem n1_eq (G : KT1 R) (σ : GS) (h : Heap) : KC k 58 c1 σ h (fun x σ h => G x (σ 4) h) = n1 k G (σ 0) (σ 1) (σ 4) h := (kseq (b := c2) rfl (fun σ h => n2_eq k G σ h)).trans (n3_eq k (fun x v1 v4 h => kx x (n2 k G v1 h) (G x v4 h)) σ h)
noncomputable def c15 : Code := cL c0
@[simp] def n0 (G : KT1 R) (v0 v1 : GV) (h : Heap) : Option R := n1 k G v0 v1 (.int .i64 0) h
theorem n0_eq (G : KT1 R) (σ : GS) (h : Heap) : KC k 58 c0 σ h (fun x σ h => G x (σ 4) h) = n0 k G (σ 0) (σ 1) h := (kseq (a := c15) (b := c1) rfl (fun σ h => n1_eq k G σ h)).trans (by kernel_rfl)
def run {R : Type} (k : Nat) (a0 : GV) (a1 : GV) (h : Heap) (fin : GV → Heap → Option R) : Option R := n0 k (fun x v4 h => kend x (fin v4 h)) a0 a1 h
theorem run_eq {R : Type} (k : Nat) (a0 : GV) (a1 : GV) (h : Heap) (fin : GV → Heap → Option R) : kfun PP cfg NN HH k fn.laws_heldActionS [a0, a1] h fin = run k a0 a1 h fin := (kfun_eq (nt := 58) (c := c0) (show PP.funcs[fn.laws_heldActionS]? = some Try.f71 by kernel_rfl) (by kernel_rfl) (by kernel_rfl) (fun x σ h => by cases x <;> kernel_rfl)).trans (n0_eq k (fun x v4 h => kend x (fin v4 h)) _ h)
theorem gives {k : Nat} {a0 : GV} {a1 : GV} {v : GV} (e : run k a0 a1 [] finN = some v) : NN fn.laws_heldActionS [a0, a1] = some v := nω_of (by kernel_rfl) ((run_eq k a0 a1 [] finN).trans e)
end S.laws_heldActionS
/-! laws_toInt64S -/
namespace S.laws_toInt64S
noncomputable def c0 : Code := bodyOf Try.f73
noncomputable def c1 : Code := cR c0
noncomputable def c2 : Code := cR c1
noncomputable def c3 : Code := cR c2
@[simp] def n3 {R : Type} (k : Nat) (G : KT1 R) (v3 : GV) (h : Heap) : Option R := G .ret v3 h
theorem n3_eq (G : KT1 R) (σ : GS) (h : Heap) : KC k 22 c3 σ h (fun x σ h => G x (σ 2) h) = n3 k G (σ 3) h := by kernel_rfl
noncomputable def c4 : Code := cL c2
noncomputable def c5 : Code := cR c4
noncomputable def c6 : Code := cL c5
noncomputable def c7 : Code := cL c6
noncomputable def c8 : Code := cR c7
noncomputable def c9 : Code := cR c8
@[simp] def n9 {R : Type} (k : Nat) (G : KT4 R) (v0 v2 v3 v4 : GV) (h : Heap) : Option R := (kbin .add v4 (.int .i64 1)).bind fun v13 => G .nrm v0 v2 v3 v13 h
theorem n9_eq (G : KT4 R) (σ : GS) (h : Heap) : KC k 22 c9 σ h (fun x σ h => G x (σ 0) (σ 2) (σ 3) (σ 4) h) = n9 k G (σ 0) (σ 2) (σ 3) (σ 4) h := by kernel_rfl
noncomputable def c10 : Code := cL c8
noncomputable def c11 : Code := cL c10
@[simp] def n11 {R : Type} (k : Nat) (G : KT4 R) (v0 v2 v3 v4 : GV) (h : Heap) : Option R := (kia 1 v0 v4).bind fun v18 => (kload1 h v18).bind fun v19 => (kia 1 v3 v4).bind fun v20 => (kstore 1 h v20 v19).bind fun h => G .nrm v0 v2 v3 v4 h
theorem n11_eq (G : KT4 R) (σ : GS) (h : Heap) : KC k 22 c11 σ h (fun x σ h => G x (σ 0) (σ 2) (σ 3) (σ 4) h) = n11 k G (σ 0) (σ 2) (σ 3) (σ 4) h := by kernel_rfl
@[simp] def n10 (G : KT4 R) (v0 v2 v3 v4 : GV) (h : Heap) : Option R := n11 k (fun x v0 v2 v3 v4 h => kb 1 x fun x => G x v0 v2 v3 v4 h) v0 v2 v3 v4 h
theorem n10_eq (G : KT4 R) (σ : GS) (h : Heap) : KC k 22 c10 σ h (fun x σ h => G x (σ 0) (σ 2) (σ 3) (σ 4) h) = n10 k G (σ 0) (σ 2) (σ 3) (σ 4) h := (kblock_eq (a := c11) rfl).trans (n11_eq k (fun x v0 v2 v3 v4 h => kb 1 x fun x => G x v0 v2 v3 v4 h) σ h)
@[simp] def n8 (G : KT4 R) (v0 v2 v3 v4 : GV) (h : Heap) : Option R := n10 k (fun x v0 v2 v3 v4 h => kx x (n9 k G v0 v2 v3 v4 h) (G x v0 v2 v3 v4 h)) v0 v2 v3 v4 h
theorem n8_eq (G : KT4 R) (σ : GS) (h : Heap) : KC k 22 c8 σ h (fun x σ h => G x (σ 0) (σ 2) (σ 3) (σ 4) h) = n8 k G (σ 0) (σ 2) (σ 3) (σ 4) h := (kseq (b := c9) rfl (fun σ h => n9_eq k G σ h)).trans (n10_eq k (fun x v0 v2 v3 v4 h => kx x (n9 k G v0 v2 v3 v4 h) (G x v0 v2 v3 v4 h)) σ h)
noncomputable def c12 : Code := cL c7
@[simp] def n7 (G : KT4 R) (v0 v2 v3 v4 : GV) (h : Heap) : Option R := (klen v0).bind fun v10 => (kbin .lss v4 v10).bind fun v11 => kcond v11 (n8 k G v0 v2 v3 v4 h) (G (.ext 0) v0 v2 v3 v4 h)
theorem n7_eq (G : KT4 R) (σ : GS) (h : Heap) : KC k 22 c7 σ h (fun x σ h => G x (σ 0) (σ 2) (σ 3) (σ 4) h) = n7 k G (σ 0) (σ 2) (σ 3) (σ 4) h := (kseq (a := c12) (b := c8) rfl (fun σ h => n8_eq k G σ h)).trans (by kernel_rfl)
def l6 {R : Type} (k : Nat) (G : KT2 R) : Nat → GV → GV → GV → GV → Heap → Option R
  | 0, _, _, _, _, _ => none
  | r + 1, v0, v2, v3, v4, h => n7 k (fun x v0 v2 v3 v4 h => kx x (l6 k G r v0 v2 v3 v4 h) (G x v2 v3 h)) v0 v2 v3 v4 h
theorem l6_eq {R : Type} (k : Nat) (G : KT2 R) : ∀ (r : Nat) (σ : GS) (h : Heap), kloop (fun σ h K => KC k 22 c7 σ h K) r σ h (fun x σ h => G x (σ 2) (σ 3) h) = l6 k G r (σ 0) (σ 2) (σ 3) (σ 4) h
  | 0, _, _ => rfl
  | r + 1, σ, h => (kloop_eq (fun σ h => l6_eq k G r σ h)).trans (n7_eq k (fun x v0 v2 v3 v4 h => kx x (l6 k G r v0 v2 v3 v4 h) (G x v2 v3 h)) σ h)
@[simp] def n6 (G : KT2 R) (v0 v2 v3 v4 : GV) (h : Heap) : Option R := l6 k G k v0 v2 v3 v4 h
theorem n6_eq (G : KT2 R) (σ : GS) (h : Heap) : KC k 22 c6 σ h (fun x σ h => G x (σ 2) (σ 3) h) = n6 k G (σ 0) (σ 2) (σ 3) (σ 4) h := (kloopc_eq (a := c7) rfl).trans (l6_eq k G k σ h)
@[simp] def n5 (G : KT2 R) (v0 v2 v3 v4 : GV) (h : Heap) : Option R := n6 k (fun x v2 v3 h => kb 0 x fun x => G x v2 v3 h) v0 v2 v3 v4 h
theorem n5_eq (G : KT2 R) (σ : GS) (h : Heap) : KC k 22 c5 σ h (fun x σ h => G x (σ 2) (σ 3) h) = n5 k G (σ 0) (σ 2) (σ 3) (σ 4) h := (kblock_eq (a := c6) rfl).trans (n6_eq k (fun x v2 v3 h => kb 0 x fun x => G x v2 v3 h) σ h)
noncomputable def c13 : Code := cL c4
@[simp] def n4 (G : KT2 R) (v0 v2 v3 : GV) (h : Heap) : Option R := n5 k G v0 v2 v3 (.int .i64 0) h
theorem n4_eq (G : KT2 R) (σ : GS) (h : Heap) : KC k 22 c4 σ h (fun x σ h => G x (σ 2) (σ 3) h) = n4 k G (σ 0) (σ 2) (σ 3) h := (kseq (a := c13) (b := c5) rfl (fun σ h => n5_eq k G σ h)).trans (by kernel_rfl)
@[simp] def n2 (G : KT1 R) (v0 v2 v3 : GV) (h : Heap) : Option R := n4 k (fun x v2 v3 h => kx x (n3 k G v3 h) (G x v2 h)) v0 v2 v3 h
theorem n2_eq (G : KT1 R) (σ : GS) (h : Heap) : KC k 22 c2 σ h (fun x σ h => G x (σ 2) h) = n2 k G (σ 0) (σ 2) (σ 3) h := (kseq (b := c3) rfl (fun σ h => n3_eq k G σ h)).trans (n4_eq k (fun x v2 v3 h => kx x (n3 k G v3 h) (G x v2 h)) σ h)
noncomputable def c14 : Code := cL c1
@[simp] def n1 (G : KT1 R) (v0 v2 : GV) (h : Heap) : Option R := (klen v0).bind fun v6 => (kmake [(.int .i64 0)] 1 8 v6 v6 h).bind fun r => kr r fun v7 h => n2 k G v0 v2 v7 h
theorem n1_eq (G : KT1 R) (σ : GS) (h : Heap) : KC k 22 c1 σ h (fun x σ h => G x (σ 2) h) = n1 k G (σ 0) (σ 2) h := (kseq (a := c14) (b := c2) rfl (fun σ h => n2_eq k G σ h)).trans (by kernel_rfl)
noncomputable def c15 : Code := cL c0
@[simp] def n0 (G : KT1 R) (v0 : GV) (h : Heap) : Option R := n1 k G v0 .nils h
theorem n0_eq (G : KT1 R) (σ : GS) (h : Heap) : KC k 22 c0 σ h (fun x σ h => G x (σ 2) h) = n0 k G (σ 0) h := (kseq (a := c15) (b := c1) rfl (fun σ h => n1_eq k G σ h)).trans (by kernel_rfl)
def run {R : Type} (k : Nat) (a0 : GV) (h : Heap) (fin : GV → Heap → Option R) : Option R := n0 k (fun x v2 h => kend x (fin v2 h)) a0 h
theorem run_eq {R : Type} (k : Nat) (a0 : GV) (h : Heap) (fin : GV → Heap → Option R) : kfun PP cfg NN HH k fn.laws_toInt64S [a0] h fin = run k a0 h fin := (kfun_eq (nt := 22) (c := c0) (show PP.funcs[fn.laws_toInt64S]? = some Try.f73 by kernel_rfl) (by kernel_rfl) (by kernel_rfl) (fun x σ h => by cases x <;> kernel_rfl)).trans (n0_eq k (fun x v2 h => kend x (fin v2 h)) _ h)
theorem gives {k : Nat} {a0 : GV} {b : Nat} {q : GV × List (List GV)} (e : run k a0 [] (finO b) = some q) : OO fn.laws_toInt64S [a0] b = some q := oω_of ((run_eq k a0 [] (finO b)).trans e)
end S.laws_toInt64S
/-! laws_eqInt64S -/
namespace S.laws_eqInt64S
noncomputable def c0 : Code := bodyOf Try.f75
noncomputable def c1 : Code := cR c0
noncomputable def c2 : Code := cR c1
noncomputable def c3 : Code := cR c2
@[simp] def n3 {R : Type} (k : Nat) (G : KT1 R) (h : Heap) : Option R := G .ret (.bool true) h
theorem n3_eq (G : KT1 R) (σ : GS) (h : Heap) : KC k 26 c3 σ h (fun x σ h => G x (σ 4) h) = n3 k G h := by kernel_rfl
noncomputable def c4 : Code := cL c2
noncomputable def c5 : Code := cR c4
noncomputable def c6 : Code := cL c5
noncomputable def c7 : Code := cL c6
noncomputable def c8 : Code := cR c7
noncomputable def c9 : Code := cR c8
@[simp] def n9 {R : Type} (k : Nat) (G : KT4 R) (v0 v1 v4 v5 : GV) (h : Heap) : Option R := (kbin .add v5 (.int .i64 1)).bind fun v16 => G .nrm v0 v1 v4 v16 h
theorem n9_eq (G : KT4 R) (σ : GS) (h : Heap) : KC k 26 c9 σ h (fun x σ h => G x (σ 0) (σ 1) (σ 4) (σ 5) h) = n9 k G (σ 0) (σ 1) (σ 4) (σ 5) h := by kernel_rfl
noncomputable def c10 : Code := cL c8
noncomputable def c11 : Code := cL c10
@[simp] def n11 {R : Type} (k : Nat) (G : KT4 R) (v0 v1 v4 v5 : GV) (h : Heap) : Option R := (kia 1 v0 v5).bind fun v19 => (kload1 h v19).bind fun v20 => (kia 1 v1 v5).bind fun v23 => (kload1 h v23).bind fun v24 => (kbin .neq v20 v24).bind fun v25 => kcond v25 (G .ret v0 v1 (.bool false) v5 h) (G .nrm v0 v1 v4 v5 h)
theorem n11_eq (G : KT4 R) (σ : GS) (h : Heap) : KC k 26 c11 σ h (fun x σ h => G x (σ 0) (σ 1) (σ 4) (σ 5) h) = n11 k G (σ 0) (σ 1) (σ 4) (σ 5) h := by kernel_rfl
@[simp] def n10 (G : KT4 R) (v0 v1 v4 v5 : GV) (h : Heap) : Option R := n11 k (fun x v0 v1 v4 v5 h => kb 1 x fun x => G x v0 v1 v4 v5 h) v0 v1 v4 v5 h
theorem n10_eq (G : KT4 R) (σ : GS) (h : Heap) : KC k 26 c10 σ h (fun x σ h => G x (σ 0) (σ 1) (σ 4) (σ 5) h) = n10 k G (σ 0) (σ 1) (σ 4) (σ 5) h := (kblock_eq (a := c11) rfl).trans (n11_eq k (fun x v0 v1 v4 v5 h => kb 1 x fun x => G x v0 v1 v4 v5 h) σ h)
@[simp] def n8 (G : KT4 R) (v0 v1 v4 v5 : GV) (h : Heap) : Option R := n10 k (fun x v0 v1 v4 v5 h => kx x (n9 k G v0 v1 v4 v5 h) (G x v0 v1 v4 v5 h)) v0 v1 v4 v5 h
theorem n8_eq (G : KT4 R) (σ : GS) (h : Heap) : KC k 26 c8 σ h (fun x σ h => G x (σ 0) (σ 1) (σ 4) (σ 5) h) = n8 k G (σ 0) (σ 1) (σ 4) (σ 5) h := (kseq (b := c9) rfl (fun σ h => n9_eq k G σ h)).trans (n10_eq k (fun x v0 v1 v4 v5 h => kx x (n9 k G v0 v1 v4 v5 h) (G x v0 v1 v4 v5 h)) σ h)
noncomputable def c12 : Code := cL c7
@[simp] def n7 (G : KT4 R) (v0 v1 v4 v5 : GV) (h : Heap) : Option R := (klen v0).bind fun v13 => (kbin .lss v5 v13).bind fun v14 => kcond v14 (n8 k G v0 v1 v4 v5 h) (G (.ext 0) v0 v1 v4 v5 h)
theorem n7_eq (G : KT4 R) (σ : GS) (h : Heap) : KC k 26 c7 σ h (fun x σ h => G x (σ 0) (σ 1) (σ 4) (σ 5) h) = n7 k G (σ 0) (σ 1) (σ 4) (σ 5) h := (kseq (a := c12) (b := c8) rfl (fun σ h => n8_eq k G σ h)).trans (by kernel_rfl)
def l6 {R : Type} (k : Nat) (G : KT1 R) : Nat → GV → GV → GV → GV → Heap → Option R
  | 0, _, _, _, _, _ => none
  | r + 1, v0, v1, v4, v5, h => n7 k (fun x v0 v1 v4 v5 h => kx x (l6 k G r v0 v1 v4 v5 h) (G x v4 h)) v0 v1 v4 v5 h
theorem l6_eq {R : Type} (k : Nat) (G : KT1 R) : ∀ (r : Nat) (σ : GS) (h : Heap), kloop (fun σ h K => KC k 26 c7 σ h K) r σ h (fun x σ h => G x (σ 4) h) = l6 k G r (σ 0) (σ 1) (σ 4) (σ 5) h
  | 0, _, _ => rfl
  | r + 1, σ, h => (kloop_eq (fun σ h => l6_eq k G r σ h)).trans (n7_eq k (fun x v0 v1 v4 v5 h => kx x (l6 k G r v0 v1 v4 v5 h) (G x v4 h)) σ h)
@[simp] def n6 (G : KT1 R) (v0 v1 v4 v5 : GV) (h : Heap) : Option R := l6 k G k v0 v1 v4 v5 h
theorem n6_eq (G : KT1 R) (σ : GS) (h : Heap) : KC k 26 c6 σ h (fun x σ h => G x (σ 4) h) = n6 k G (σ 0) (σ 1) (σ 4) (σ 5) h := (kloopc_eq (a := c7) rfl).trans (l6_eq k G k σ h)
@[simp] def n5 (G : KT1 R) (v0 v1 v4 v5 : GV) (h : Heap) : Option R := n6 k (fun x v4 h => kb 0 x fun x => G x v4 h) v0 v1 v4 v5 h
theorem n5_eq (G : KT1 R) (σ : GS) (h : Heap) : KC k 26 c5 σ h (fun x σ h => G x (σ 4) h) = n5 k G (σ 0) (σ 1) (σ 4) (σ 5) h := (kblock_eq (a := c6) rfl).trans (n6_eq k (fun x v4 h => kb 0 x fun x => G x v4 h) σ h)
noncomputable def c13 : Code := cL c4
@[simp] def n4 (G : KT1 R) (v0 v1 v4 : GV) (h : Heap) : Option R := n5 k G v0 v1 v4 (.int .i64 0) h
theorem n4_eq (G : KT1 R) (σ : GS) (h : Heap) : KC k 26 c4 σ h (fun x σ h => G x (σ 4) h) = n4 k G (σ 0) (σ 1) (σ 4) h := (kseq (a := c13) (b := c5) rfl (fun σ h => n5_eq k G σ h)).trans (by kernel_rfl)
@[simp] def n2 (G : KT1 R) (v0 v1 v4 : GV) (h : Heap) : Option R := n4 k (fun x v4 h => kx x (n3 k G h) (G x v4 h)) v0 v1 v4 h
theorem n2_eq (G : KT1 R) (σ : GS) (h : Heap) : KC k 26 c2 σ h (fun x σ h => G x (σ 4) h) = n2 k G (σ 0) (σ 1) (σ 4) h := (kseq (b := c3) rfl (fun σ h => n3_eq k G σ h)).trans (n4_eq k (fun x v4 h => kx x (n3 k G h) (G x v4 h)) σ h)
noncomputable def c14 : Code := cL c1
@[simp] def n1 (G : KT1 R) (v0 v1 v4 : GV) (h : Heap) : Option R := (klen v0).bind fun v7 => (klen v1).bind fun v9 => (kbin .neq v7 v9).bind fun v10 => kcond v10 (G .ret (.bool false) h) (n2 k G v0 v1 v4 h)
theorem n1_eq (G : KT1 R) (σ : GS) (h : Heap) : KC k 26 c1 σ h (fun x σ h => G x (σ 4) h) = n1 k G (σ 0) (σ 1) (σ 4) h := (kseq (a := c14) (b := c2) rfl (fun σ h => n2_eq k G σ h)).trans (by kernel_rfl)
noncomputable def c15 : Code := cL c0
@[simp] def n0 (G : KT1 R) (v0 v1 : GV) (h : Heap) : Option R := n1 k G v0 v1 (.bool false) h
theorem n0_eq (G : KT1 R) (σ : GS) (h : Heap) : KC k 26 c0 σ h (fun x σ h => G x (σ 4) h) = n0 k G (σ 0) (σ 1) h := (kseq (a := c15) (b := c1) rfl (fun σ h => n1_eq k G σ h)).trans (by kernel_rfl)
def run {R : Type} (k : Nat) (a0 : GV) (a1 : GV) (h : Heap) (fin : GV → Heap → Option R) : Option R := n0 k (fun x v4 h => kend x (fin v4 h)) a0 a1 h
theorem run_eq {R : Type} (k : Nat) (a0 : GV) (a1 : GV) (h : Heap) (fin : GV → Heap → Option R) : kfun PP cfg NN HH k fn.laws_eqInt64S [a0, a1] h fin = run k a0 a1 h fin := (kfun_eq (nt := 26) (c := c0) (show PP.funcs[fn.laws_eqInt64S]? = some Try.f75 by kernel_rfl) (by kernel_rfl) (by kernel_rfl) (fun x σ h => by cases x <;> kernel_rfl)).trans (n0_eq k (fun x v4 h => kend x (fin v4 h)) _ h)
theorem gives {k : Nat} {a0 : GV} {a1 : GV} {v : GV} (e : run k a0 a1 [] finN = some v) : NN fn.laws_eqInt64S [a0, a1] = some v := nω_of (by kernel_rfl) ((run_eq k a0 a1 [] finN).trans e)
end S.laws_eqInt64S
/-! laws_markInt64S -/
namespace S.laws_markInt64S
noncomputable def c0 : Code := bodyOf Try.f76
noncomputable def c1 : Code := cR c0
noncomputable def c2 : Code := cR c1
@[simp] def n2 {R : Type} (k : Nat) (G : KT1 R) (v1 : GV) (h : Heap) : Option R := G .ret v1 h
theorem n2_eq (G : KT1 R) (σ : GS) (h : Heap) : KC k 19 c2 σ h (fun x σ h => G x (σ 4) h) = n2 k G (σ 1) h := by kernel_rfl
noncomputable def c3 : Code := cL c1
noncomputable def c4 : Code := cR c3
noncomputable def c5 : Code := cL c4
noncomputable def c6 : Code := cL c5
noncomputable def c7 : Code := cR c6
noncomputable def c8 : Code := cR c7
@[simp] def n8 {R : Type} (k : Nat) (G : KT4 R) (v0 v1 v4 v5 : GV) (h : Heap) : Option R := (kbin .add v5 (.int .i64 1)).bind fun v11 => G .nrm v0 v1 v4 v11 h
theorem n8_eq (G : KT4 R) (σ : GS) (h : Heap) : KC k 19 c8 σ h (fun x σ h => G x (σ 0) (σ 1) (σ 4) (σ 5) h) = n8 k G (σ 0) (σ 1) (σ 4) (σ 5) h := by kernel_rfl
noncomputable def c9 : Code := cL c7
noncomputable def c10 : Code := cL c9
@[simp] def n10 {R : Type} (k : Nat) (G : KT4 R) (v0 v1 v4 v5 : GV) (h : Heap) : Option R := (kia 1 v0 v5).bind fun v15 => (kstore 1 h v15 v1).bind fun h => (kbin .add v1 (.int .i64 1)).bind fun v17 => G .nrm v0 v17 v4 v5 h
theorem n10_eq (G : KT4 R) (σ : GS) (h : Heap) : KC k 19 c10 σ h (fun x σ h => G x (σ 0) (σ 1) (σ 4) (σ 5) h) = n10 k G (σ 0) (σ 1) (σ 4) (σ 5) h := by kernel_rfl
@[simp] def n9 (G : KT4 R) (v0 v1 v4 v5 : GV) (h : Heap) : Option R := n10 k (fun x v0 v1 v4 v5 h => kb 1 x fun x => G x v0 v1 v4 v5 h) v0 v1 v4 v5 h
theorem n9_eq (G : KT4 R) (σ : GS) (h : Heap) : KC k 19 c9 σ h (fun x σ h => G x (σ 0) (σ 1) (σ 4) (σ 5) h) = n9 k G (σ 0) (σ 1) (σ 4) (σ 5) h := (kblock_eq (a := c10) rfl).trans (n10_eq k (fun x v0 v1 v4 v5 h => kb 1 x fun x => G x v0 v1 v4 v5 h) σ h)
@[simp] def n7 (G : KT4 R) (v0 v1 v4 v5 : GV) (h : Heap) : Option R := n9 k (fun x v0 v1 v4 v5 h => kx x (n8 k G v0 v1 v4 v5 h) (G x v0 v1 v4 v5 h)) v0 v1 v4 v5 h
theorem n7_eq (G : KT4 R) (σ : GS) (h : Heap) : KC k 19 c7 σ h (fun x σ h => G x (σ 0) (σ 1) (σ 4) (σ 5) h) = n7 k G (σ 0) (σ 1) (σ 4) (σ 5) h := (kseq (b := c8) rfl (fun σ h => n8_eq k G σ h)).trans (n9_eq k (fun x v0 v1 v4 v5 h => kx x (n8 k G v0 v1 v4 v5 h) (G x v0 v1 v4 v5 h)) σ h)
noncomputable def c11 : Code := cL c6
@[simp] def n6 (G : KT4 R) (v0 v1 v4 v5 : GV) (h : Heap) : Option R := (klen v0).bind fun v8 => (kbin .lss v5 v8).bind fun v9 => kcond v9 (n7 k G v0 v1 v4 v5 h) (G (.ext 0) v0 v1 v4 v5 h)
theorem n6_eq (G : KT4 R) (σ : GS) (h : Heap) : KC k 19 c6 σ h (fun x σ h => G x (σ 0) (σ 1) (σ 4) (σ 5) h) = n6 k G (σ 0) (σ 1) (σ 4) (σ 5) h := (kseq (a := c11) (b := c7) rfl (fun σ h => n7_eq k G σ h)).trans (by kernel_rfl)
def l5 {R : Type} (k : Nat) (G : KT2 R) : Nat → GV → GV → GV → GV → Heap → Option R
  | 0, _, _, _, _, _ => none
  | r + 1, v0, v1, v4, v5, h => n6 k (fun x v0 v1 v4 v5 h => kx x (l5 k G r v0 v1 v4 v5 h) (G x v1 v4 h)) v0 v1 v4 v5 h
theorem l5_eq {R : Type} (k : Nat) (G : KT2 R) : ∀ (r : Nat) (σ : GS) (h : Heap), kloop (fun σ h K => KC k 19 c6 σ h K) r σ h (fun x σ h => G x (σ 1) (σ 4) h) = l5 k G r (σ 0) (σ 1) (σ 4) (σ 5) h
  | 0, _, _ => rfl
  | r + 1, σ, h => (kloop_eq (fun σ h => l5_eq k G r σ h)).trans (n6_eq k (fun x v0 v1 v4 v5 h => kx x (l5 k G r v0 v1 v4 v5 h) (G x v1 v4 h)) σ h)
@[simp] def n5 (G : KT2 R) (v0 v1 v4 v5 : GV) (h : Heap) : Option R := l5 k G k v0 v1 v4 v5 h
theorem n5_eq (G : KT2 R) (σ : GS) (h : Heap) : KC k 19 c5 σ h (fun x σ h => G x (σ 1) (σ 4) h) = n5 k G (σ 0) (σ 1) (σ 4) (σ 5) h := (kloopc_eq (a := c6) rfl).trans (l5_eq k G k σ h)
@[simp] def n4 (G : KT2 R) (v0 v1 v4 v5 : GV) (h : Heap) : Option R := n5 k (fun x v1 v4 h => kb 0 x fun x => G x v1 v4 h) v0 v1 v4 v5 h
theorem n4_eq (G : KT2 R) (σ : GS) (h : Heap) : KC k 19 c4 σ h (fun x σ h => G x (σ 1) (σ 4) h) = n4 k G (σ 0) (σ 1) (σ 4) (σ 5) h := (kblock_eq (a := c5) rfl).trans (n5_eq k (fun x v1 v4 h => kb 0 x fun x => G x v1 v4 h) σ h)
noncomputable def c12 : Code := cL c3
@[simp] def n3 (G : KT2 R) (v0 v1 v4 : GV) (h : Heap) : Option R := n4 k G v0 v1 v4 (.int .i64 0) h
theorem n3_eq (G : KT2 R) (σ : GS) (h : Heap) : KC k 19 c3 σ h (fun x σ h => G x (σ 1) (σ 4) h) = n3 k G (σ 0) (σ 1) (σ 4) h := (kseq (a := c12) (b := c4) rfl (fun σ h => n4_eq k G σ h)).trans (by kernel_rfl)
@[simp] def n1 (G : KT1 R) (v0 v1 v4 : GV) (h : Heap) : Option R := n3 k (fun x v1 v4 h => kx x (n2 k G v1 h) (G x v4 h)) v0 v1 v4 h
theorem n1_eq (G : KT1 R) (σ : GS) (h : Heap) : KC k 19 c1 σ h (fun x σ h => G x (σ 4) h) = n1 k G (σ 0) (σ 1) (σ 4) h := (kseq (b := c2) rfl (fun σ h => n2_eq k G σ h)).trans (n3_eq k (fun x v1 v4 h => kx x (n2 k G v1 h) (G x v4 h)) σ h)
noncomputable def c13 : Code := cL c0
@[simp] def n0 (G : KT1 R) (v0 v1 : GV) (h : Heap) : Option R := n1 k G v0 v1 (.int .i64 0) h
theorem n0_eq (G : KT1 R) (σ : GS) (h : Heap) : KC k 19 c0 σ h (fun x σ h => G x (σ 4) h) = n0 k G (σ 0) (σ 1) h := (kseq (a := c13) (b := c1) rfl (fun σ h => n1_eq k G σ h)).trans (by kernel_rfl)
def run {R : Type} (k : Nat) (a0 : GV) (a1 : GV) (h : Heap) (fin : GV → Heap → Option R) : Option R := n0 k (fun x v4 h => kend x (fin v4 h)) a0 a1 h
theorem run_eq {R : Type} (k : Nat) (a0 : GV) (a1 : GV) (h : Heap) (fin : GV → Heap → Option R) : kfun PP cfg NN HH k fn.laws_markInt64S [a0, a1] h fin = run k a0 a1 h fin := (kfun_eq (nt := 19) (c := c0) (show PP.funcs[fn.laws_markInt64S]? = some Try.f76 by kernel_rfl) (by kernel_rfl) (by kernel_rfl) (fun x σ h => by cases x <;> kernel_rfl)).trans (n0_eq k (fun x v4 h => kend x (fin v4 h)) _ h)
theorem gives {k : Nat} {a0 : GV} {a1 : GV} {h : Heap} {r : GV × Heap} (e : run k a0 a1 h finH = some r) : HH fn.laws_markInt64S [a0, a1] h = some r := kω_of ((run_eq k a0 a1 h finH).trans e)
end S.laws_markInt64S
/-! laws_szInt64S -/
namespace S.laws_szInt64S
noncomputable def c0 : Code := bodyOf Try.f163
@[simp] def n0 {R : Type} (k : Nat) (G : KT1 R) (v0 v1 : GV) (h : Heap) : Option R := (klen v0).bind fun v7 => (kbin .sub v1 v7).bind fun v8 => (kbin .lss v8 (.int .i64 0)).bind fun v10 => kcond v10 (G .ret (.int .i64 (-1)) h) (G .ret v8 h)
theorem n0_eq (G : KT1 R) (σ : GS) (h : Heap) : KC k 12 c0 σ h (fun x σ h => G x (σ 4) h) = n0 k G (σ 0) (σ 1) h := by kernel_rfl
def run {R : Type} (k : Nat) (a0 : GV) (a1 : GV) (h : Heap) (fin : GV → Heap → Option R) : Option R := n0 k (fun x v4 h => kend x (fin v4 h)) a0 a1 h
theorem run_eq {R : Type} (k : Nat) (a0 : GV) (a1 : GV) (h : Heap) (fin : GV → Heap → Option R) : kfun PP cfg NN HH k fn.laws_szInt64S [a0, a1] h fin = run k a0 a1 h fin := (kfun_eq (nt := 12) (c := c0) (show PP.funcs[fn.laws_szInt64S]? = some Try.f163 by kernel_rfl) (by kernel_rfl) (by kernel_rfl) (fun x σ h => by cases x <;> kernel_rfl)).trans (n0_eq k (fun x v4 h => kend x (fin v4 h)) _ h)
theorem gives {k : Nat} {a0 : GV} {a1 : GV} {v : GV} (e : run k a0 a1 [] finN = some v) : NN fn.laws_szInt64S [a0, a1] = some v := nω_of (by kernel_rfl) ((run_eq k a0 a1 [] finN).trans e)
end S.laws_szInt64S
/-! laws_heldInt64S -/
namespace S.laws_heldInt64S
noncomputable def c0 : Code := bodyOf Try.f164
noncomputable def c1 : Code := cR c0
noncomputable def c2 : Code := cR c1
@[simp] def n2 {R : Type} (k : Nat) (G : KT1 R) (v1 : GV) (h : Heap) : Option R := G .ret v1 h
theorem n2_eq (G : KT1 R) (σ : GS) (h : Heap) : KC k 21 c2 σ h (fun x σ h => G x (σ 4) h) = n2 k G (σ 1) h := by kernel_rfl
noncomputable def c3 : Code := cL c1
noncomputable def c4 : Code := cR c3
noncomputable def c5 : Code := cL c4
noncomputable def c6 : Code := cL c5
noncomputable def c7 : Code := cR c6
noncomputable def c8 : Code := cR c7
@[simp] def n8 {R : Type} (k : Nat) (G : KT4 R) (v0 v1 v4 v5 : GV) (h : Heap) : Option R := (kbin .add v5 (.int .i64 1)).bind fun v11 => G .nrm v0 v1 v4 v11 h
theorem n8_eq (G : KT4 R) (σ : GS) (h : Heap) : KC k 21 c8 σ h (fun x σ h => G x (σ 0) (σ 1) (σ 4) (σ 5) h) = n8 k G (σ 0) (σ 1) (σ 4) (σ 5) h := by kernel_rfl
noncomputable def c9 : Code := cL c7
noncomputable def c10 : Code := cL c9
@[simp] def n10 {R : Type} (k : Nat) (G : KT4 R) (v0 v1 v4 v5 : GV) (h : Heap) : Option R := (kia 1 v0 v5).bind fun v14 => (kload1 h v14).bind fun v15 => (kbin .neq v15 v1).bind fun v17 => kcond v17 (G .ret v0 v1 (.int .i64 (-1)) v5 h) ((kbin .add v1 (.int .i64 1)).bind fun v19 => G .nrm v0 v19 v4 v5 h)
theorem n10_eq (G : KT4 R) (σ : GS) (h : Heap) : KC k 21 c10 σ h (fun x σ h => G x (σ 0) (σ 1) (σ 4) (σ 5) h) = n10 k G (σ 0) (σ 1) (σ 4) (σ 5) h := by kernel_rfl
@[simp] def n9 (G : KT4 R) (v0 v1 v4 v5 : GV) (h : Heap) : Option R := n10 k (fun x v0 v1 v4 v5 h => kb 1 x fun x => G x v0 v1 v4 v5 h) v0 v1 v4 v5 h
theorem n9_eq (G : KT4 R) (σ : GS) (h : Heap) : KC k 21 c9 σ h (fun x σ h => G x (σ 0) (σ 1) (σ 4) (σ 5) h) = n9 k G (σ 0) (σ 1) (σ 4) (σ 5) h := (kblock_eq (a := c10) rfl).trans (n10_eq k (fun x v0 v1 v4 v5 h => kb 1 x fun x => G x v0 v1 v4 v5 h) σ h)
@[simp] def n7 (G : KT4 R) (v0 v1 v4 v5 : GV) (h : Heap) : Option R := n9 k (fun x v0 v1 v4 v5 h => kx x (n8 k G v0 v1 v4 v5 h) (G x v0 v1 v4 v5 h)) v0 v1 v4 v5 h
theorem n7_eq (G : KT4 R) (σ : GS) (h : Heap) : KC k 21 c7 σ h (fun x σ h => G x (σ 0) (σ 1) (σ 4) (σ 5) h) = n7 k G (σ 0) (σ 1) (σ 4) (σ 5) h := (kseq (b := c8) rfl (fun σ h => n8_eq k G σ h)).trans (n9_eq k (fun x v0 v1 v4 v5 h => kx x (n8 k G v0 v1 v4 v5 h) (G x v0 v1 v4 v5 h)) σ h)
noncomputable def c11 : Code := cL c6
@[simp] def n6 (G : KT4 R) (v0 v1 v4 v5 : GV) (h : Heap) : Option R := (klen v0).bind fun v8 => (kbin .lss v5 v8).bind fun v9 => kcond v9 (n7 k G v0 v1 v4 v5 h) (G (.ext 0) v0 v1 v4 v5 h)
theorem n6_eq (G : KT4 R) (σ : GS) (h : Heap) : KC k 21 c6 σ h (fun x σ h => G x (σ 0) (σ 1) (σ 4) (σ 5) h) = n6 k G (σ 0) (σ 1) (σ 4) (σ 5) h := (kseq (a := c11) (b := c7) rfl (fun σ h => n7_eq k G σ h)).trans (by kernel_rfl)
def l5 {R : Type} (k : Nat) (G : KT2 R) : Nat → GV → GV → GV → GV → Heap → Option R
  | 0, _, _, _, _, _ => none
  | r + 1, v0, v1, v4, v5, h => n6 k (fun x v0 v1 v4 v5 h => kx x (l5 k G r v0 v1 v4 v5 h) (G x v1 v4 h)) v0 v1 v4 v5 h
theorem l5_eq {R : Type} (k : Nat) (G : KT2 R) : ∀ (r : Nat) (σ : GS) (h : Heap), kloop (fun σ h K => KC k 21 c6 σ h K) r σ h (fun x σ h => G x (σ 1) (σ 4) h) = l5 k G r (σ 0) (σ 1) (σ 4) (σ 5) h
  | 0, _, _ => rfl
  | r + 1, σ, h => (kloop_eq (fun σ h => l5_eq k G r σ h)).trans (n6_eq k (fun x v0 v1 v4 v5 h => kx x (l5 k G r v0 v1 v4 v5 h) (G x v1 v4 h)) σ h)
@[simp] def n5 (G : KT2 R) (v0 v1 v4 v5 : GV) (h : Heap) : Option R := l5 k G k v0 v1 v4 v5 h
theorem n5_eq (G : KT2 R) (σ : GS) (h : Heap) : KC k 21 c5 σ h (fun x σ h => G x (σ 1) (σ 4) h) = n5 k G (σ 0) (σ 1) (σ 4) (σ 5) h := (kloopc_eq (a := c6) rfl).trans (l5_eq k G k σ h)
@[simp] def n4 (G : KT2 R) (v0 v1 v4 v5 : GV) (h : Heap) : Option R := n5 k (fun x v1 v4 h => kb 0 x fun x => G x v1 v4 h) v0 v1 v4 v5 h
theorem n4_eq (G : KT2 R) (σ : GS) (h : Heap) : KC k 21 c4 σ h (fun x σ h => G x (σ 1) (σ 4) h) = n4 k G (σ 0) (σ 1) (σ 4) (σ 5) h := (kblock_eq (a := c5) rfl).trans (n5_eq k (fun x v1 v4 h => kb 0 x fun x => G x v1 v4 h) σ h)
noncomputable def c12 : Code := cL c3
@[simp] def n3 (G : KT2 R) (v0 v1 v4 : GV) (h : Heap) : Option R := n4 k G v0 v1 v4 (.int .i64 0) h
theorem n3_eq (G : KT2 R) (σ : GS) (h : Heap) : KC k 21 c3 σ h (fun x σ h => G x (σ 1) (σ 4) h) = n3 k G (σ 0) (σ 1) (σ 4) h := (kseq (a := c12) (b := c4) rfl (fun σ h => n4_eq k G σ h)).trans (by kernel_rfl)
@[simp] def n1 (G : KT1 R) (v0 v1 v4 : GV) (h : Heap) : Option R := n3 k (fun x v1 v4 h => kx x (n2 k G v1 h) (G x v4 h)) v0 v1 v4 h
theorem n1_eq (G : KT1 R) (σ : GS) (h : Heap) : KC k 21 c1 σ h (fun x σ h => G x (σ 4) h) = n1 k G (σ 0) (σ 1) (σ 4) h := (kseq (b := c2) rfl (fun σ h => n2_eq k G σ h)).trans (n3_eq k (fun x v1 v4 h => kx x (n2 k G v1 h) (G x v4 h)) σ h)
noncomputable def c13 : Code := cL c0
@[simp] def n0 (G : KT1 R) (v0 v1 : GV) (h : Heap) : Option R := n1 k G v0 v1 (.int .i64 0) h
theorem n0_eq (G : KT1 R) (σ : GS) (h : Heap) : KC k 21 c0 σ h (fun x σ h => G x (σ 4) h) = n0 k G (σ 0) (σ 1) h := (kseq (a := c13) (b := c1) rfl (fun σ h => n1_eq k G σ h)).trans (by kernel_rfl)
def run {R : Type} (k : Nat) (a0 : GV) (a1 : GV) (h : Heap) (fin : GV → Heap → Option R) : Option R := n0 k (fun x v4 h => kend x (fin v4 h)) a0 a1 h
theorem run_eq {R : Type} (k : Nat) (a0 : GV) (a1 : GV) (h : Heap) (fin : GV → Heap → Option R) : kfun PP cfg NN HH k fn.laws_heldInt64S [a0, a1] h fin = run k a0 a1 h fin := (kfun_eq (nt := 21) (c := c0) (show PP.funcs[fn.laws_heldInt64S]? = some Try.f164 by kernel_rfl) (by kernel_rfl) (by kernel_rfl) (fun x σ h => by cases x <;> kernel_rfl)).trans (n0_eq k (fun x v4 h => kend x (fin v4 h)) _ h)
theorem gives {k : Nat} {a0 : GV} {a1 : GV} {v : GV} (e : run k a0 a1 [] finN = some v) : NN fn.laws_heldInt64S [a0, a1] = some v := nω_of (by kernel_rfl) ((run_eq k a0 a1 [] finN).trans e)
end S.laws_heldInt64S
/-! laws_eqAction -/
namespace S.laws_eqAction
noncomputable def c0 : Code := bodyOf Try.f168
@[simp] def n0 {R : Type} (k : Nat) (G : KT1 R) (v0 v1 : GV) (h : Heap) : Option R := kbox v0 h fun v2 h => kbox v1 h fun v3 h => (kfa 0 v2).bind fun v5 => (kload1 h v5).bind fun v6 => (kfa 0 v3).bind fun v7 => (kload1 h v7).bind fun v8 => (kbin .neq v6 v8).bind fun v9 => kcond v9 (G .ret (.bool false) h) ((kfa 1 v2).bind fun v10 => (kload1 h v10).bind fun v11 => (kfa 1 v3).bind fun v12 => (kload1 h v12).bind fun v13 => (kbin .neq v11 v13).bind fun v14 => kcond v14 (G .ret (.bool false) h) ((kfa 2 v2).bind fun v15 => (kload1 h v15).bind fun v16 => (kfa 2 v3).bind fun v17 => (kload1 h v17).bind fun v18 => (kN NN fn.laws_eqInt64S [v16, v18] h).bind fun v19 => (kun .not v19).bind fun v20 => kcond v20 (G .ret (.bool false) h) ((kfa 3 v2).bind fun v21 => (kload1 h v21).bind fun v22 => (kfa 3 v3).bind fun v23 => (kload1 h v23).bind fun v24 => (kbin .neq v22 v24).bind fun v25 => kcond v25 (G .ret (.bool false) h) ((kfa 4 v2).bind fun v26 => (kload1 h v26).bind fun v27 => (kfa 4 v3).bind fun v28 => (kload1 h v28).bind fun v29 => (kN NN fn.laws_eqInt64S [v27, v29] h).bind fun v30 => (kun .not v30).bind fun v31 => kcond v31 (G .ret (.bool false) h) (G .ret (.bool true) h)))))
theorem n0_eq (G : KT1 R) (σ : GS) (h : Heap) : KC k 32 c0 σ h (fun x σ h => G x (σ 4) h) = n0 k G (σ 0) (σ 1) h := by kernel_rfl
def run {R : Type} (k : Nat) (a0 : GV) (a1 : GV) (h : Heap) (fin : GV → Heap → Option R) : Option R := n0 k (fun x v4 h => kend x (fin v4 h)) a0 a1 h
theorem run_eq {R : Type} (k : Nat) (a0 : GV) (a1 : GV) (h : Heap) (fin : GV → Heap → Option R) : kfun PP cfg NN HH k fn.laws_eqAction [a0, a1] h fin = run k a0 a1 h fin := (kfun_eq (nt := 32) (c := c0) (show PP.funcs[fn.laws_eqAction]? = some Try.f168 by kernel_rfl) (by kernel_rfl) (by kernel_rfl) (fun x σ h => by cases x <;> kernel_rfl)).trans (n0_eq k (fun x v4 h => kend x (fin v4 h)) _ h)
theorem gives {k : Nat} {a0 : GV} {a1 : GV} {v : GV} (e : run k a0 a1 [] finN = some v) : NN fn.laws_eqAction [a0, a1] = some v := nω_of (by kernel_rfl) ((run_eq k a0 a1 [] finN).trans e)
end S.laws_eqAction
end
end Go.Proofs.Ytlbnioapepelnaa.G
