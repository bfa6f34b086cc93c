/- spec.NewTerm; that new screens are of a size that marks can bear. -/
import Derived.Test.YtleeifecdjolhaaTTerm
namespace Go.Proofs.Ytleeifecdjolhaa.G
open Go.RowKit
set_option linter.unusedVariables false
set_option linter.unusedSimpArgs false
set_option maxRecDepth 100000
theorem spec_NewTerm_spec (c n : Int) : NN fn.spec_NewTerm [.int .i64 c, .int .i64 n] = some (.tup [.agg (mTerm false (newTermM c n).1), .bool (newTermM c n).2]) := by
  obtain ⟨g, g1, g2, t, ht, sp⟩ := spec_NewGrid_spec c n
  obtain ⟨H0, hH0⟩ : ∃ H0 : Heap, [zTerm0] = H0 := ⟨_, rfl⟩
  have hal : ∀ {Q : Type} (K : GV → Heap → Option Q), kalloc zTerm0 [] K = K (.ptr 0 0 30) H0 := fun K => by rw [← hH0]; rfl
  have Z0 : H0[0]? = some zTerm0 := by rw [← hH0]; rfl
  have l0 : H0.length = 1 := by rw [← hH0]; rfl
  have s0 : kN NN fn.spec_NewGrid [.int .i64 c, .int .i64 n] H0 = some (.tup [.agg g, .bool t]) := kN_at (by simp) sp
  have v1 := var_at (H := H0) (z := [.int .i64 0, .nils]) (c := g) (n := 2) rfl g1 g2
  obtain ⟨H1, hH1⟩ : ∃ H1, H0 ++ [g] = H1 := ⟨_, rfl⟩
  have f1 : Fr [] H0 H1 := by rw [← hH1]; exact .app
  have l1 : H1.length = H0.length + 1 := by rw [← hH1]; simp
  rw [hH1] at v1
  have Z1 := f1.blk Z0 no_nil
  apply S.spec_NewTerm.gives (k := 0)
  simp only [S.spec_NewTerm.run, S.spec_NewTerm.n0]
  rw [hal]
  by_cases h : SizeOk c n
  · have hres : newTermM c n = (termM c.toNat n.toNat, true) := by unfold newTermM; rw [if_pos h]
    rw [hres]
    obtain rfl : t = true := ht.2 h
    obtain ⟨c', rfl⟩ : ∃ c' : Nat, c = c' := ⟨c.toNat, by have := h.1; omega⟩
    obtain ⟨n', rfl⟩ : ∃ n' : Nat, n = n' := ⟨n.toNat, by have := h.2; omega⟩
    rw [Int.toNat_natCast, Int.toNat_natCast]
    obtain ⟨g5, R5, H5, t5, r5, n5, b5, f5, l5⟩ := fresh_agg goodTerm (f := fn.spec_l7New) (args := [.int .i64 (c' : Int), .int .i64 (n' : Int)]) (xs := [.int .i64 (c' : Int), .int .i64 (n' : Int)]) (H := H1) (by simp) (spec_l7New_spec c' n' (by have := h.1; omega) (by have := h.1; omega) (by have := h.2; omega) (by have := h.2; omega) H1.length)
    have Z5 := f5.blk Z1 no_nil
    have hl5 := (List.getElem?_eq_some_iff.1 Z5).1
    have cl := goodTerm.len r5
    have s5 := kstoreA_at (n := 30) Z5 rfl (c' := g5) cl (goodTerm.cell r5)
    obtain ⟨H6, hH6⟩ : ∃ H6, H5.set 0 g5 = H6 := ⟨_, rfl⟩
    have f6 : Fr [0] H5 H6 := by rw [← hH6]; exact .set (by simp)
    rw [hH6] at s5
    have Z6 : H6[0]? = some g5 := by rw [← hH6, List.getElem?_set_self hl5]
    have k6 := kloadA_at (n := 30) Z6 cl
    have e := finN_term (t := true) (goodTerm.keep r5 f6 (fun i hi h => by have := b5 i hi; rw [List.mem_singleton] at h; omega))
    simp [s0, kalloc_at, v1, t5, s5, k6, e, -kF_OO, -kN_eq, -kloadA_ptr, -kstore_ptr, -kalloc_eq]
  · have hres : newTermM c n = (term0, false) := by unfold newTermM; rw [if_neg h]
    rw [hres]
    obtain rfl : t = false := by cases t <;> simp_all
    have s5 := kstoreA_at (n := 30) Z1 rfl (c' := zTerm0) rfl rfl
    obtain ⟨H6, hH6⟩ : ∃ H6, H1.set 0 zTerm0 = H6 := ⟨_, rfl⟩
    rw [hH6] at s5
    have hl1 := (List.getElem?_eq_some_iff.1 Z1).1
    have Z6 : H6[0]? = some zTerm0 := by rw [← hH6, List.getElem?_set_self hl1]
    have k6 := kloadA_at (n := 30) Z6 rfl
    have e := finN_term (t := false) (h := H6) term0_rel
    simp [s0, kalloc_at, v1, gfill, s5, k6, e, -kF_OO, -kN_eq, -kloadA_ptr, -kstore_ptr, -kalloc_eq]
theorem gridM_ok (c n : Nat) (hc : c ≤ 60) (hn : n ≤ 30) : okGrid (gridM c n) := by
  refine ⟨?_, fun x hx => ⟨?_, fun y hy => ?_⟩⟩
  · show (List.replicate n (rowM c)).length ≤ _
    rw [List.length_replicate]; omega
  · have := List.eq_of_mem_replicate hx
    rw [this]
    show (List.replicate c blankT).length ≤ _
    rw [List.length_replicate]; omega
  · exact trivial
theorem newTermM_ok (c n : Int) : okTerm (newTermM c n).1 := by
  unfold newTermM
  by_cases h : SizeOk c n
  · rw [if_pos h]
    have h1 := h.1
    have h2 := h.2
    have g := gridM_ok c.toNat n.toNat (by omega) (by omega)
    exact ⟨g, g, trivial, trivial, Nat.zero_le _, ⟨Nat.zero_le _, Nat.zero_le _⟩, Nat.zero_le _⟩
  · rw [if_neg h]
    have g : okGrid (0, []) := ⟨Nat.zero_le _, fun x hx => absurd hx List.not_mem_nil⟩
    exact ⟨g, g, trivial, trivial, Nat.zero_le _, ⟨Nat.zero_le _, Nat.zero_le _⟩, Nat.zero_le _⟩
open Classical in
theorem eqTerm_self (x : TermT) (hx : okTerm x) : NN fn.laws_eqTerm [.agg (mTerm true x), .agg (mTerm true x)] = some (.bool true) := by
  obtain ⟨⟨a1, a2⟩, ⟨b1, b2⟩, a3, a4, ⟨c1, c2, c3, c4, c5⟩, a6, a7, a8, a9, a10, a11, a12, a13, ⟨d1, d2, d3, d4, d5⟩, a15, ⟨e1, e2, e3, e4⟩, a17⟩ := x
  have := laws_eqTerm_spec a1 a1 a2 a2 b1 b1 b2 b2 a3 a3 a4 a4 c1 c1 c2 c2 c3 c3 c4 c4 c5 c5 a6 a6 a7 a7 a8 a8 a9 a9 a10 a10 a11 a11 a12 a12 a13 a13 d1 d1 d2 d2 d3 d3 d4 d4 d5 d5 a15 a15 e1 e1 e2 e2 e3 e3 e4 e4 a17 a17 hx
  rw [decide_eq_true rfl] at this
  exact this
end Go.Proofs.Ytleeifecdjolhaa.G
