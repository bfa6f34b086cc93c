/- Carry: what the program and the reference answer. -/
import Derived.Test.YtopmnigfklgnkaaTCar
namespace Go.Proofs.Ytopmnigfklgnkaa.G
open Go.RowKit
set_option linter.unusedVariables false
set_option linter.unusedSimpArgs false

theorem kval_Carry_1 {R : Type} {caps args : List GV} {h : Heap} {K : GV → Heap → Option R} : kval (.fn fn.impl_Carry_1 caps) args h K = (HH fn.impl_Carry_1 (args ++ caps) h).bind fun r => K r.1 r.2 := by kernel_rfl
theorem impl_Carry_spec (a : ChainT) (hm : okChain a) (i : Int) (b : Nat) : ∃ c bl, OO fn.impl_Carry [.agg (mChain true a), .int .i64 i] b = some (.tup [.agg c, .bool (onM a (carryM a i)).2], bl) ∧ ∀ H T, H.length = b → rChain (H ++ bl ++ T) c (onM a (carryM a i)).1 (List.range' b bl.length) := by
  have ch := fun H : Heap => fresh_tup goodChain (f := fn.impl_changed) (args := [.agg (mChain true a), .fn fn.impl_Carry_1 [.fp true [.int .i64 i]]]) (xs := [.agg (mChain true a), .fn fn.impl_Carry_1 [.fp true [.int .i64 i]]]) (H := H) (by simp; rfl) (impl_changed_specN a hm fn.impl_Carry_1 [.fp true [.int .i64 i]] (carryM a i) (fun args h K => kval_Carry_1) (fun h => impl_Carry_1_op a h hm i) carryM_false H.length)
  have hML : (mChain true a).length = 3 := rfl
  have bM : ∀ H : Heap, bor 9 H (.agg (mChain true a)) = some (.agg (mChain true a), []) := fun H => by simp
  obtain ⟨M, hM⟩ : ∃ M, mChain true a = M := ⟨_, rfl⟩
  rw [hM] at hML ⊢
  simp only [hM] at ch bM
  obtain ⟨H0, hH0⟩ : ∃ H0 : Heap, [M, [.int .i64 i], [.nils, .nils, .nils]] = H0 := ⟨_, rfl⟩
  have A0 : H0[0]? = some M := by rw [← hH0]; rfl
  have Z0 : H0[2]? = some [.nils, .nils, .nils] := by rw [← hH0]; rfl
  obtain ⟨c1, R1, H1, t1, r1, n1, b1, f1, l1⟩ := ch H0
  have cl1 := goodChain.len r1
  have Z1 := f1.blk Z0 no_nil
  have hl1 := (List.getElem?_eq_some_iff.1 Z1).1
  have s1 := kstoreA_at (n := 3) Z1 rfl (c' := c1) cl1 (goodChain.cell r1)
  obtain ⟨H2, hH2⟩ : ∃ H2, H1.set 2 c1 = H2 := ⟨_, rfl⟩
  have f2 : Fr [2] H1 H2 := by rw [← hH2]; exact .set (by simp)
  rw [hH2] at s1
  have A2 : H2[2]? = some c1 := by rw [← hH2, List.getElem?_set_self hl1]
  have l2 := kloadA_at (n := 3) A2 cl1
  have l0 : H0.length = 3 := by rw [← hH0]; rfl
  obtain ⟨c, bl, e1, e2⟩ := goodChain.finT (t := (onM a (carryM a i)).2) (by omega) (goodChain.keep r1 f2 (fun i hi h => by have := b1 i hi; rw [List.mem_singleton] at h; omega)) n1 b
  refine ⟨c, bl, S.impl_Carry.gives (k := 0) ?_, e2⟩
  have hbo : ∀ {Q : Type} (K : GV → Heap → Option Q), kbox (.agg M) [] K = K (.ptr 0 0 3) [M] := fun K => by rw [kbox_agg, hML]; rfl
  have hb1 : ∀ {Q : Type} (K : GV → Heap → Option Q), kbox (.int .i64 i) [M] K = K (.ptr 1 0 1) [M, [.int .i64 i]] := fun K => rfl
  have hal : ∀ {Q : Type} (K : GV → Heap → Option Q), kalloc [.nils, .nils, .nils] [M, [.int .i64 i]] K = K (.ptr 2 0 3) H0 := fun K => by rw [kalloc_eq, ← hH0]; rfl
  have t2 : kF false HH fn.impl_changed [.agg M, .fn fn.impl_Carry_1 [.ptr 1 0 1]] H0 = kF false HH fn.impl_changed [.agg M, .fn fn.impl_Carry_1 [.fp true [.int .i64 i]]] H0 := by
    have b1 : bor 9 H0 (.fn fn.impl_Carry_1 [.ptr 1 0 1]) = some (.fn fn.impl_Carry_1 [.fp true [.int .i64 i]], [1]) := by rw [← hH0]; rfl
    have b2 : bor 9 H0 (.fn fn.impl_Carry_1 [.fp true [.int .i64 i]]) = some (.fn fn.impl_Carry_1 [.fp true [.int .i64 i]], []) := rfl
    first | rfl | (rw [kF_OO, kF_OO]; simp only [bors_cons, bors_nil, bM, b1, b2, Option.bind_some])
  simp [S.impl_Carry.run, hbo, hb1, hal, kloadA_at A0 hML, t2, t1, s1, l2, e1, -kF_OO, -kloadA_ptr, -kstore_ptr, -kbox_agg, -kalloc_eq]
open Classical in
theorem spec_Carry_spec (a : ChainT) (hm : okChain a) (i : Int) : NN fn.spec_Carry [.agg (mChain true a), .int .i64 i] = some (.tup [.agg (mChain false (onM a (carryM a i)).1), .bool (onM a (carryM a i)).2]) := by
  have hc := spec_ChainOk_spec a.1 a.2.1 a.2.2 hm
  have bM : ∀ H : Heap, bors H [.agg (mChain true a)] = some [.agg (mChain true a)] := fun H => by simp
  have hc' : NN fn.spec_ChainOk [.agg (mChain true a)] = some (.bool (decide (ChainP a.1 a.2.1 a.2.2))) := hc
  have hML : (mChain true a).length = 3 := rfl
  by_cases h : ChainP a.1 a.2.1 a.2.2
  case neg =>
    have hon : onM a (carryM a i) = (([], [], []), false) := by unfold onM; rw [if_neg h]
    rw [decide_eq_false h] at hc'
    rw [hon]
    apply S.spec_Carry.gives (k := 0)
    have q := kN_at (H := [mChain true a, [.nils, .nils, .nils]]) (bM _) hc'
    have e1 := finN_chain (t := false) (h := [mChain true a, [.nils, .nils, .nils]]) rChain_none
    simp only [mChain] at q e1
    simp [S.spec_Carry.run, gfill, q, e1, -kN_eq]
  have hon : onM a (carryM a i) = (carryM a i) := by unfold onM; rw [if_pos h]
  rw [decide_eq_true h] at hc'
  rw [hon]
  obtain ⟨M, hM⟩ : ∃ M, mChain true a = M := ⟨_, rfl⟩
  have cp := fun H => fresh_agg goodChain (f := fn.spec_l17Copy) (args := [.agg M]) (xs := [.agg M]) (H := H) (x := a) (by rw [← hM]; exact bM _) (by rw [← hM]; exact spec_l17Copy_spec a hm H.length)
  rw [hM] at hc' bM hML ⊢
  obtain ⟨H0, hH0⟩ : ∃ H0 : Heap, [M, [.nils, .nils, .nils]] = H0 := ⟨_, rfl⟩
  have l0 : H0.length = 2 := by rw [← hH0]; rfl
  have A0 : H0[0]? = some M := by rw [← hH0]; rfl
  have Z0 : H0[1]? = some [.nils, .nils, .nils] := by rw [← hH0]; rfl
  have hbox : ∀ {Q : Type} (K : GV → Heap → Option Q), kbox (.agg M) [] K = K (.ptr 0 0 3) [M] := fun K => by rw [kbox_agg, hML]; rfl
  have hal : ∀ {Q : Type} (K : GV → Heap → Option Q), kalloc [.nils, .nils, .nils] [M] K = K (.ptr 1 0 3) H0 := fun K => by rw [kalloc_eq, ← hH0]; rfl
  have q := kN_at (H := H0) (bM _) hc'
  obtain ⟨c1, R1, H1, t1, r1, n1, b1, f1, l1⟩ := cp H0
  have cl1 := goodChain.len r1
  have v1 := var_at (H := H1) (z := [.nils, .nils, .nils]) (c := c1) (n := 3) rfl cl1 (goodChain.cell r1)
  obtain ⟨H2, hH2⟩ : ∃ H2, H1 ++ [c1] = H2 := ⟨_, rfl⟩
  have f2 : Fr [] H1 H2 := by rw [← hH2]; exact .app
  have l2 : H2.length = H1.length + 1 := by rw [← hH2]; simp
  have X2 : H2[H1.length]? = some c1 := by rw [← hH2]; simp
  rw [hH2] at v1
  obtain ⟨vS, vD, vU, RS, RD, RU, hcc, C, hin⟩ := rChain_in (lo := 2) X2 (goodChain.keep r1 f2 (fun _ _ => no_nil)) n1 (fun i hi => by have := b1 i hi; omega) (fun hi => by have := b1 _ hi; omega)
  obtain ⟨H3, vS', vD', vU', RS', RD', RU', t3, C3, k3⟩ := spec_l17Carry_op a h hm i H1.length 2 H2 vS vD vU RS RD RU C (by omega)
  have Z3 : H3[1]? = some [.nils, .nils, .nils] := by
    have hc := f2.blk (f1.blk Z0 no_nil) no_nil
    have hno : ∀ S : List Nat, (∀ j ∈ S, j ∈ RS ∨ j ∈ RD ∨ j ∈ RU) → 1 ∉ S := fun S hS hi' => by
      have := b1 1 (hin 1 (hS 1 hi')); omega
    rw [k3 1 (List.getElem?_eq_some_iff.1 hc).1 (by omega) (hno _ fun j hj => Or.inl hj) (hno _ fun j hj => Or.inr (Or.inl hj)) (hno _ fun j hj => Or.inr (Or.inr hj)), hc]
  obtain ⟨hr3, nd3⟩ := C3.fin
  have l3 := kloadA_at (n := 3) C3.cell rfl
  have hc3 : [vS', vD', vU'].all GV.isCell = true := by simp [(cell_of C3.s).2, (cell_of C3.d).2, (cell_of C3.u).2]
  have s3 := kstoreA_at (n := 3) Z3 rfl (c' := [vS', vD', vU']) rfl hc3
  have hl3 := (List.getElem?_eq_some_iff.1 Z3).1
  obtain ⟨H4, hH4⟩ : ∃ H4, H3.set 1 [vS', vD', vU'] = H4 := ⟨_, rfl⟩
  have f4 : Fr [1] H3 H4 := by rw [← hH4]; exact .set (by simp)
  rw [hH4] at s3
  have A4 : H4[1]? = some [vS', vD', vU'] := by rw [← hH4, List.getElem?_set_self hl3]
  have l4 := kloadA_at (n := 3) A4 rfl
  have e1 := finN_chain (t := (carryM a i).2) (goodChain.keep hr3 f4 (fun i hi h => by
    rw [List.mem_singleton] at h
    simp only [List.mem_append] at hi
    rcases hi with h' | h' | h'
    · have := C3.ls i h'; omega
    · have := C3.ld i h'; omega
    · have := C3.lu i h'; omega))
  apply S.spec_Carry.gives (k := 0)
  simp [S.spec_Carry.run, hbox, hal, kloadA_at A0 hML, q, t1, v1, hH2, t3, l3, s3, l4, e1, -kN_eq, -kF_OO, -kloadA_ptr, -kstore_ptr, -kbox_agg, -kalloc_eq]
  simp [kalloc_at, v1, t3, l3, s3, l4, e1, -kloadA_ptr, -kstore_ptr, -kalloc_eq]
end Go.Proofs.Ytopmnigfklgnkaa.G
