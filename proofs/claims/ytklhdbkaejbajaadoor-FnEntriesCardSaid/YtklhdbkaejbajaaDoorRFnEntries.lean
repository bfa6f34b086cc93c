/- FnEntries: the law returns true for every code. -/
import Derived.Test.YtklhdbkaejbajaaDoorTEnt
import Derived.Test.YtklhdbkaejbajaaDoorTRead4
namespace Go.Proofs.YtklhdbkaejbajaaDoor.G
open Go.RowKit Go.Lib
set_option linter.unusedVariables false
set_option linter.unusedSimpArgs false

theorem spec_DrawEntryOk_spec (code : List UInt8) (hl : code.length ≤ 1048576) : ∃ (k c q : Int) (l : List UInt8), NN fn.spec_DrawEntryOk [fzl true 1 cy code] = some (ent k c q l) ∧ l.length ≤ 200 := by
  have ka : ∀ {Q : Type} (h : Heap) (K : GV → Heap → Option Q), kalloc zeroE h K = K (.ptr h.length 0 4) (h ++ [zeroE]) := fun h K => rfl
  obtain ⟨H1, e1, c1, f1⟩ := spec_l1New_spec code [zeroE] hl
  have e1' : HH fn.spec_l1New [fzl true 1 cy code] ([] ++ [zeroE]) = some (.ptr 1 0 3, H1) := e1
  have z1 : H1[0]? = some zeroE := f1.2 0 (by simp) (by simp)
  obtain ⟨k, c, q, l, H2, e2, h2, d2⟩ := spec_l18DrawAny_spec hl c1
  have e2' : HH fn.spec_l18DrawAny [.ptr 1 0 3] H1 = some (ent k c q l, H2) := e2
  have z2 : H2[0]? = some zeroE := d2.get (by simp) z1
  have s3 : kstore 4 H2 (.ptr ([] : Heap).length 0 4) (ent k c q l) = some (H2.set 0 (entC k c q l)) := st4 z2 rfl rfl rfl
  have l3 : kloadA 4 (H2.set 0 (entC k c q l)) (.ptr ([] : Heap).length 0 4) = some (ent k c q l) := ld4 (set_get z2) rfl
  have fT : ∀ H, finN (ent k c q l) H = some (ent k c q l) := fun H => rfl
  refine ⟨k, c, q, l, ?_, h2⟩
  apply S.spec_DrawEntryOk.gives (k := 0)
  generalize fzl true 1 cy code = C at *
  generalize ent k c q l = E at *
  simp only [S.spec_DrawEntryOk.run, S.spec_DrawEntryOk.n0, ka, e1', Option.bind_some, kr_mk, e2', s3, kend_ret, l3, fT]
theorem spec_DrawShowEntry_spec (code : List UInt8) (hl : code.length ≤ 1048576) : ∃ (k c q : Int) (l : List UInt8), NN fn.spec_DrawShowEntry [fzl true 1 cy code] = some (ent k c q l) ∧ l.length ≤ 200 := by
  have ka : ∀ {Q : Type} (h : Heap) (K : GV → Heap → Option Q), kalloc zeroE h K = K (.ptr h.length 0 4) (h ++ [zeroE]) := fun h K => rfl
  obtain ⟨k, c, q, l, e1, h2⟩ := spec_DrawEntryOk_spec code hl
  have k1 : ∀ H, kN NN fn.spec_DrawEntryOk [fzl true 1 cy code] H = _ := fun H => kN_at bors_cy e1
  have s3 : kstore 4 (([] : Heap) ++ [zeroE]) (.ptr ([] : Heap).length 0 4) (ent k c q l) = some [entC k c q l] := st4 (C := zeroE) rfl rfl rfl rfl
  have l3 : kloadA 4 [entC k c q l] (.ptr ([] : Heap).length 0 4) = some (ent k c q l) := ld4 (C := entC k c q l) rfl rfl
  have fT : ∀ H, finN (ent k c q l) H = some (ent k c q l) := fun H => rfl
  refine ⟨k, c, q, l, ?_, h2⟩
  apply S.spec_DrawShowEntry.gives (k := 0)
  generalize fzl true 1 cy code = C at *
  generalize ent k c q l = E at *
  simp only [S.spec_DrawShowEntry.run, S.spec_DrawShowEntry.n0, ka, k1, Option.bind_some, s3, kend_ret, l3, fT]
theorem showM_len (k c q : Int) (l : List UInt8) : (showM k c q l).length ≤ 1000 := by
  unfold showM
  by_cases hp : entP k c q l.length = true
  · rw [if_pos hp]
    obtain ⟨b1, b2, b3, b4, b5⟩ := entP_b hp
    have h1 := itoa_len (n := c) (by omega) (by omega)
    have h2 := itoa_len (n := q) (by omega) (by omega)
    have h3 := hexM_len l
    unfold shM
    split
    · rw [spcM_two]; simp [keysT]; omega
    · split
      · simp [outT]; omega
      · rw [spcM_two]; simp [sizeT]; omega
  · rw [if_neg hp]; simp
theorem spec_DrawReadEntry_spec (code : List UInt8) (hl : code.length ≤ 1048576) : ∃ t : List UInt8, NN fn.spec_DrawReadEntry [fzl true 1 cy code] = some (.str (bs t)) ∧ t.length ≤ 2000 := by
  obtain ⟨H1, e1, c1⟩ := l1New_nil code hl
  obtain ⟨k, c, q, l, H2, e2, h2, d2⟩ := spec_l18DrawAny_spec hl c1
  have k3 : ∀ H, kN NN fn.spec_ShowEntry [ent k c q l] H = _ := fun H => kN_at (by simp [ent]) (spec_ShowEntry_spec k c q l)
  have sl := showM_len k c q l
  obtain ⟨b, H4, e4, d4⟩ := spec_l1Once_spec hl d2.1 2
  cases b
  · refine ⟨showM k c q l, ?_, by omega⟩
    apply S.spec_DrawReadEntry.gives (k := 0)
    have fT := fun h => finN_bs (showM k c q l) h
    generalize fzl true 1 cy code = C at *
    generalize ent k c q l = E at *
    generalize GV.str (bs (showM k c q l)) = Z at *
    simp only [S.spec_DrawReadEntry.run, S.spec_DrawReadEntry.n0, S.spec_DrawReadEntry.n1, e1, Option.bind_some, kr_mk, S.spec_DrawReadEntry.n2, e2, k3, S.spec_DrawReadEntry.n3, e4, kcond_bool, cond_false, S.spec_DrawReadEntry.n4, kend_ret, fT]
  · obtain ⟨t, H5, e5, h5, d5⟩ := spec_l13Bend_spec (s := showM k c q l) (signs := [48, 49, 97, 32, 107, 115]) hl d4.1 (by omega) (by decide) (by decide)
    have e5' : HH fn.spec_l13Bend [.ptr 0 0 3, .str (bs (showM k c q l)), .str { data := #[48, 49, 97, 32, 107, 115] }] H4 = _ := e5
    refine ⟨t, ?_, by omega⟩
    apply S.spec_DrawReadEntry.gives (k := 0)
    have fT := fun h => finN_bs t h
    generalize fzl true 1 cy code = C at *
    generalize ent k c q l = E at *
    generalize GV.str (bs (showM k c q l)) = Z at *
    generalize GV.str (bs t) = T at *
    simp only [S.spec_DrawReadEntry.run, S.spec_DrawReadEntry.n0, S.spec_DrawReadEntry.n1, e1, Option.bind_some, kr_mk, S.spec_DrawReadEntry.n2, e2, k3, S.spec_DrawReadEntry.n3, e4, kcond_bool, cond_true, e5', S.spec_DrawReadEntry.n4, kend_ret, fT]

theorem keqS_ent (k c q : Int) (l : ByteArray) : keqS PP .neq ty.impl_Entry (.agg [.int .i64 k, .int .i64 c, .int .i64 q, .str l]) (.agg [.int .i64 k, .int .i64 c, .int .i64 q, .str l]) = some (.bool false) := by
  have h : keqS PP .neq ty.impl_Entry (.agg [.int .i64 k, .int .i64 c, .int .i64 q, .str l]) (.agg [.int .i64 k, .int .i64 c, .int .i64 q, .str l]) =
      (((if (k == k) = true then (if (c == c) = true then (if (q == q) = true then (if (l == l) = true then some true else some false) else some false) else some false) else some false) : Option Bool).map fun b => GV.bool !b) := by kernel_rfl
  have hl : (l == l) = true := by
    cases l with
    | mk d => show (d == d) = true; simp
  rw [h]
  simp [hl]
theorem keqS_zero : keqS PP .eql ty.impl_Entry (.agg zeroE) (.agg zeroE) = some (.bool true) := by kernel_rfl
theorem entOk_show (k c q : Int) (l : List UInt8) : kbin .neq (.str (bs (showM k c q l))) (.str { data := #[] }) = some (.bool (entP k c q l.length)) := by
  rw [kbin_sneq]
  congr 2
  cases hp : entP k c q l.length with
  | true =>
    rw [decide_eq_true_eq]
    intro h
    rw [show ({ data := #[] } : ByteArray) = bs [] from rfl, bs_inj] at h
    unfold showM at h
    rw [if_pos hp] at h
    exact (Shows.ne (s := shM k c q l) ⟨hp, rfl⟩) h
  | false =>
    unfold showM
    rw [hp]
    rfl

theorem FnEntries_row (a0 : List (Int)) (i0 : inSl (fun x1 : Int => (Lit.int .u8 x1).wf = true) a0) : NN fn.laws_FnEntries [(fzl true 1 (fun x1 : Int => [GV.int .u8 x1]) a0)] = some (.bool true) := by
  obtain ⟨code, e0, _⟩ := code_of i0
  rw [e0]
  have big : ∀ H, kN NN fn.laws_big [fzl true 1 cy code] H = _ := fun H => kN_at bors_cy (laws_big_spec code)
  by_cases hb : 4096 < code.length
  · rw [decide_eq_true hb] at big
    apply S.laws_FnEntries.gives (k := 0)
    generalize fzl true 1 cy code = C at *
    simp only [S.laws_FnEntries.run, S.laws_FnEntries.n0, S.laws_FnEntries.n1, big, Option.bind_some, kcond_bool, cond_true, kend_ret, finN_bool]
  rw [decide_eq_false hb] at big
  have hl : code.length ≤ 1048576 := by omega
  obtain ⟨k, c, q, l, d1, hl1⟩ := spec_DrawShowEntry_spec code hl
  have D1 : ∀ H, kN NN fn.spec_DrawShowEntry [fzl true 1 cy code] H = _ := fun H => kN_at bors_cy d1
  obtain ⟨t, d2, ht⟩ := spec_DrawReadEntry_spec code hl
  have D2 : ∀ H, kN NN fn.spec_DrawReadEntry [fzl true 1 cy code] H = _ := fun H => kN_at bors_cy d2
  have ka : ∀ {Q : Type} (h : Heap) (K : GV → Heap → Option Q), kalloc zeroE h K = K (.ptr h.length 0 4) (h ++ [zeroE]) := fun h K => rfl
  have kg : ∀ {Q : Type} (E : List GV) (h : Heap) (K : GV → Heap → Option Q), kagg E h K = K (.agg E) h := fun E h K => rfl
  have ga : gfill (fun i => ([(0, 1), (1, 1), (2, 1), (3, 1)] : List (Nat × Nat))[i]?) zeroE [] = some zeroE := rfl
  have sA : ∀ (H : Heap) (k c q : Int) (l : List UInt8), kstore 4 (H ++ [zeroE]) (.ptr H.length 0 4) (ent k c q l) = some (H ++ [entC k c q l]) := fun H k c q l => by
    rw [st4 (C := zeroE) (by simp) rfl rfl rfl]; simp
  have sZ : ∀ (H : Heap), kstore 4 (H ++ [zeroE]) (.ptr H.length 0 4) (.agg zeroE) = some (H ++ [zeroE]) := fun H => by
    rw [st4 (C := zeroE) (by simp) rfl rfl rfl]; simp
  have lA : ∀ (H : Heap) (k c q : Int) (l : List UInt8), kloadA 4 (H ++ [entC k c q l]) (.ptr H.length 0 4) = some (ent k c q l) := fun H k c q l => ld4 (C := entC k c q l) (by simp) rfl
  have lB : ∀ (H : Heap) (X : List GV) (k c q : Int) (l : List UInt8), kloadA 4 (H ++ [entC k c q l] ++ [X]) (.ptr H.length 0 4) = some (ent k c q l) := fun H X k c q l => ld4 (C := entC k c q l) (by simp) rfl
  have lZ : ∀ (H : Heap), kloadA 4 (H ++ [zeroE]) (.ptr H.length 0 4) = some (.agg zeroE) := fun H => ld4 (C := zeroE) (by simp) rfl
  have lY : ∀ (H : Heap) (X : List GV), kloadA 4 (H ++ [zeroE] ++ [X]) (.ptr H.length 0 4) = some (.agg zeroE) := fun H X => ld4 (C := zeroE) (by simp) rfl
  have s1 : ∀ H, kN NN fn.impl_ShowEntry [ent k c q l] H = _ := fun H => kN_at (by simp [ent]) (impl_ShowEntry_spec k c q l)
  have s2 : ∀ H, kN NN fn.spec_ShowEntry [ent k c q l] H = _ := fun H => kN_at (by simp [ent]) (spec_ShowEntry_spec k c q l)
  have s3 : ∀ H, kN NN fn.impl_EntryOk [ent k c q l] H = _ := fun H => kN_at (by simp [ent]) (impl_EntryOk_spec k c q l)
  have ne1 : kbin .neq (.str (bs (showM k c q l))) (.str (bs (showM k c q l))) = some (.bool false) := by rw [kbin_sneq]; simp
  have ne2 := entOk_show k c q l
  have kq1 := keqS_ent k c q (bs l)
  have kqz := keqS_zero
  have kqz' : keqS PP .neq ty.impl_Entry (.agg zeroE) (.agg zeroE) = some (.bool false) := keqS_ent 0 0 0 _
  have kt : keqB .neq (.bool true) (.bool true) = some (.bool false) := rfl
  have kf : keqB .neq (.bool false) (.bool false) = some (.bool false) := rfl
  have eqT : kbin .eql (.str (bs t)) (.str (bs t)) = some (.bool true) := by rw [kbin_seql]; simp
  have sl := showM_len k c q l
  have rd1 : entP k c q l.length = true → ∀ H, kN NN fn.impl_ReadEntry [.str (bs (showM k c q l))] H = some (.tup [ent k c q l, .bool true]) := fun hp H => by
    have sh : Shows (showM k c q l) k c q l := ⟨hp, by unfold showM; rw [if_pos hp]⟩
    rcases impl_ReadEntry_spec (showM k c q l) (by omega) with ⟨k', c', q', l', h1, h2⟩ | ⟨h1, _⟩
    · obtain ⟨rfl, rfl, rfl, rfl⟩ := sh.uniq h1
      exact kN_at (by simp) h2
    · exact absurd sh (h1 _ _ _ _)
  have rd2 : (∃ k2 c2 q2 l2, (∀ H, kN NN fn.impl_ReadEntry [.str (bs t)] H = some (.tup [ent k2 c2 q2 l2, .bool true])) ∧ (∀ H, kN NN fn.spec_ReadEntry [.str (bs t)] H = some (.tup [ent k2 c2 q2 l2, .bool true])) ∧ ∀ H, kN NN fn.impl_ShowEntry [ent k2 c2 q2 l2] H = some (.str (bs t))) ∨
      ((∀ H, kN NN fn.impl_ReadEntry [.str (bs t)] H = some (.tup [.agg zeroE, .bool false])) ∧ ∀ H, kN NN fn.spec_ReadEntry [.str (bs t)] H = some (.tup [.agg zeroE, .bool false])) := by
    rcases impl_ReadEntry_spec t (by omega) with ⟨k2, c2, q2, l2, h1, h2⟩ | ⟨h1, h2⟩ <;> rcases spec_ReadEntry_spec t (by omega) with ⟨k3, c3, q3, l3, h3, h4⟩ | ⟨h3, h4⟩
    · obtain ⟨rfl, rfl, rfl, rfl⟩ := h1.uniq h3
      exact .inl ⟨k2, c2, q2, l2, fun H => kN_at (by simp) h2, fun H => kN_at (by simp) h4, fun H => kN_at (xs := [ent k2 c2 q2 l2]) (by simp [ent]) (by rw [impl_ShowEntry_spec, h1.show'])⟩
    · exact absurd h1 (h3 _ _ _ _)
    · exact absurd h3 (h1 _ _ _ _)
    · exact .inr ⟨fun H => kN_at (by simp) h2, fun H => kN_at (by simp) h4⟩
  apply S.laws_FnEntries.gives (k := 0)
  generalize fzl true 1 cy code = C at *
  cases hp : entP k c q l.length with
  | true =>
    rw [hp] at s3 ne2
    have rd1' := rd1 hp
    generalize GV.str (bs (showM k c q l)) = SH at *
    generalize GV.str (bs t) = T at *
    rcases rd2 with ⟨k2, c2, q2, l2, r1, r2, r3⟩ | ⟨r1, r2⟩
    · have kq2 := keqS_ent k2 c2 q2 (bs l2)
      simp only [S.laws_FnEntries.run, S.laws_FnEntries.n0, S.laws_FnEntries.n1, S.laws_FnEntries.n2, S.laws_FnEntries.n3, S.laws_FnEntries.n4, Option.bind_some, kr_mk, kxt_tup, List.getElem?_cons_zero, List.getElem?_cons_succ, kcond_bool, cond_true, cond_false, kun_not, Bool.not_true, Bool.not_false, kpick_bool, tr_bool, tr_un, kx_nrm, kx_ret, kb_nrm, kb_ret, kend_ret, kend_nrm, finN_bool, beq_self_eq_true, beq_false, beq_true, Bool.false_eq_true, BEq.rfl, Bool.not_eq_true, reduceCtorEq, big, D1, D2, ka, sA, lA, lB, s1, s2, s3, ne1, ne2, rd1', kq1, kt, kf, r1, r2, r3, kq2, eqT]
      try simp only [S.laws_FnEntries.n28, S.laws_FnEntries.n30, S.laws_FnEntries.g30_0, S.laws_FnEntries.g30_1, S.laws_FnEntries.g30_2, S.laws_FnEntries.n29, Option.bind_some, kr_mk, kxt_tup, List.getElem?_cons_zero, List.getElem?_cons_succ, kcond_bool, cond_true, cond_false, kun_not, Bool.not_true, Bool.not_false, kpick_bool, tr_bool, tr_un, kx_nrm, kx_ret, kb_nrm, kb_ret, kend_ret, kend_nrm, finN_bool, beq_self_eq_true, beq_false, beq_true, Bool.false_eq_true, BEq.rfl, Bool.not_eq_true, reduceCtorEq, big, D1, D2, ka, sA, lA, lB, s1, s2, s3, ne1, ne2, rd1', kq1, kt, kf, r1, r2, r3, kq2, eqT]
      try simp only [S.laws_FnEntries.n5, S.laws_FnEntries.n19, S.laws_FnEntries.n20, S.laws_FnEntries.n21, S.laws_FnEntries.n22, S.laws_FnEntries.n24, Option.bind_some, kr_mk, kxt_tup, List.getElem?_cons_zero, List.getElem?_cons_succ, kcond_bool, cond_true, cond_false, kun_not, Bool.not_true, Bool.not_false, kpick_bool, tr_bool, tr_un, kx_nrm, kx_ret, kb_nrm, kb_ret, kend_ret, kend_nrm, finN_bool, beq_self_eq_true, beq_false, beq_true, Bool.false_eq_true, BEq.rfl, Bool.not_eq_true, reduceCtorEq, big, D1, D2, ka, sA, lA, lB, s1, s2, s3, ne1, ne2, rd1', kq1, kt, kf, r1, r2, r3, kq2, eqT]
      try simp only [S.laws_FnEntries.g24_0, S.laws_FnEntries.g24_1, S.laws_FnEntries.g24_2, S.laws_FnEntries.n23, S.laws_FnEntries.n26, S.laws_FnEntries.n6, Option.bind_some, kr_mk, kxt_tup, List.getElem?_cons_zero, List.getElem?_cons_succ, kcond_bool, cond_true, cond_false, kun_not, Bool.not_true, Bool.not_false, kpick_bool, tr_bool, tr_un, kx_nrm, kx_ret, kb_nrm, kb_ret, kend_ret, kend_nrm, finN_bool, beq_self_eq_true, beq_false, beq_true, Bool.false_eq_true, BEq.rfl, Bool.not_eq_true, reduceCtorEq, big, D1, D2, ka, sA, lA, lB, s1, s2, s3, ne1, ne2, rd1', kq1, kt, kf, r1, r2, r3, kq2, eqT]
      try simp only [S.laws_FnEntries.n7, S.laws_FnEntries.n8, S.laws_FnEntries.n12, S.laws_FnEntries.n13, S.laws_FnEntries.n15, S.laws_FnEntries.g15_0, Option.bind_some, kr_mk, kxt_tup, List.getElem?_cons_zero, List.getElem?_cons_succ, kcond_bool, cond_true, cond_false, kun_not, Bool.not_true, Bool.not_false, kpick_bool, tr_bool, tr_un, kx_nrm, kx_ret, kb_nrm, kb_ret, kend_ret, kend_nrm, finN_bool, beq_self_eq_true, beq_false, beq_true, Bool.false_eq_true, BEq.rfl, Bool.not_eq_true, reduceCtorEq, big, D1, D2, ka, sA, lA, lB, s1, s2, s3, ne1, ne2, rd1', kq1, kt, kf, r1, r2, r3, kq2, eqT]
      try simp only [S.laws_FnEntries.g15_1, S.laws_FnEntries.g15_2, S.laws_FnEntries.n14, S.laws_FnEntries.n9, S.laws_FnEntries.n11, S.laws_FnEntries.g11_0, Option.bind_some, kr_mk, kxt_tup, List.getElem?_cons_zero, List.getElem?_cons_succ, kcond_bool, cond_true, cond_false, kun_not, Bool.not_true, Bool.not_false, kpick_bool, tr_bool, tr_un, kx_nrm, kx_ret, kb_nrm, kb_ret, kend_ret, kend_nrm, finN_bool, beq_self_eq_true, beq_false, beq_true, Bool.false_eq_true, BEq.rfl, Bool.not_eq_true, reduceCtorEq, big, D1, D2, ka, sA, lA, lB, s1, s2, s3, ne1, ne2, rd1', kq1, kt, kf, r1, r2, r3, kq2, eqT]
      try simp only [S.laws_FnEntries.g11_1, S.laws_FnEntries.g11_2, S.laws_FnEntries.g11_3, S.laws_FnEntries.g11_4, S.laws_FnEntries.g11_5, S.laws_FnEntries.g11_6, Option.bind_some, kr_mk, kxt_tup, List.getElem?_cons_zero, List.getElem?_cons_succ, kcond_bool, cond_true, cond_false, kun_not, Bool.not_true, Bool.not_false, kpick_bool, tr_bool, tr_un, kx_nrm, kx_ret, kb_nrm, kb_ret, kend_ret, kend_nrm, finN_bool, beq_self_eq_true, beq_false, beq_true, Bool.false_eq_true, BEq.rfl, Bool.not_eq_true, reduceCtorEq, big, D1, D2, ka, sA, lA, lB, s1, s2, s3, ne1, ne2, rd1', kq1, kt, kf, r1, r2, r3, kq2, eqT]
      try simp only [S.laws_FnEntries.n10, Option.bind_some, kr_mk, kxt_tup, List.getElem?_cons_zero, List.getElem?_cons_succ, kcond_bool, cond_true, cond_false, kun_not, Bool.not_true, Bool.not_false, kpick_bool, tr_bool, tr_un, kx_nrm, kx_ret, kb_nrm, kb_ret, kend_ret, kend_nrm, finN_bool, beq_self_eq_true, beq_false, beq_true, Bool.false_eq_true, BEq.rfl, Bool.not_eq_true, reduceCtorEq, big, D1, D2, ka, sA, lA, lB, s1, s2, s3, ne1, ne2, rd1', kq1, kt, kf, r1, r2, r3, kq2, eqT]
    · skip
      simp only [S.laws_FnEntries.run, S.laws_FnEntries.n0, S.laws_FnEntries.n1, S.laws_FnEntries.n2, S.laws_FnEntries.n3, S.laws_FnEntries.n4, Option.bind_some, kr_mk, kxt_tup, List.getElem?_cons_zero, List.getElem?_cons_succ, kcond_bool, cond_true, cond_false, kun_not, Bool.not_true, Bool.not_false, kpick_bool, tr_bool, tr_un, kx_nrm, kx_ret, kb_nrm, kb_ret, kend_ret, kend_nrm, finN_bool, beq_self_eq_true, beq_false, beq_true, Bool.false_eq_true, BEq.rfl, Bool.not_eq_true, reduceCtorEq, big, D1, D2, ka, kg, ga, sA, sZ, lA, lB, lZ, lY, s1, s2, s3, ne1, ne2, rd1', kq1, kt, kf, r1, r2, kqz, kqz']
      try simp only [S.laws_FnEntries.n28, S.laws_FnEntries.n30, S.laws_FnEntries.g30_0, S.laws_FnEntries.g30_1, S.laws_FnEntries.g30_2, S.laws_FnEntries.n29, Option.bind_some, kr_mk, kxt_tup, List.getElem?_cons_zero, List.getElem?_cons_succ, kcond_bool, cond_true, cond_false, kun_not, Bool.not_true, Bool.not_false, kpick_bool, tr_bool, tr_un, kx_nrm, kx_ret, kb_nrm, kb_ret, kend_ret, kend_nrm, finN_bool, beq_self_eq_true, beq_false, beq_true, Bool.false_eq_true, BEq.rfl, Bool.not_eq_true, reduceCtorEq, big, D1, D2, ka, kg, ga, sA, sZ, lA, lB, lZ, lY, s1, s2, s3, ne1, ne2, rd1', kq1, kt, kf, r1, r2, kqz, kqz']
      try simp only [S.laws_FnEntries.n5, S.laws_FnEntries.n19, S.laws_FnEntries.n20, S.laws_FnEntries.n21, S.laws_FnEntries.n22, S.laws_FnEntries.n24, Option.bind_some, kr_mk, kxt_tup, List.getElem?_cons_zero, List.getElem?_cons_succ, kcond_bool, cond_true, cond_false, kun_not, Bool.not_true, Bool.not_false, kpick_bool, tr_bool, tr_un, kx_nrm, kx_ret, kb_nrm, kb_ret, kend_ret, kend_nrm, finN_bool, beq_self_eq_true, beq_false, beq_true, Bool.false_eq_true, BEq.rfl, Bool.not_eq_true, reduceCtorEq, big, D1, D2, ka, kg, ga, sA, sZ, lA, lB, lZ, lY, s1, s2, s3, ne1, ne2, rd1', kq1, kt, kf, r1, r2, kqz, kqz']
      try simp only [S.laws_FnEntries.g24_0, S.laws_FnEntries.g24_1, S.laws_FnEntries.g24_2, S.laws_FnEntries.n23, S.laws_FnEntries.n26, S.laws_FnEntries.n6, Option.bind_some, kr_mk, kxt_tup, List.getElem?_cons_zero, List.getElem?_cons_succ, kcond_bool, cond_true, cond_false, kun_not, Bool.not_true, Bool.not_false, kpick_bool, tr_bool, tr_un, kx_nrm, kx_ret, kb_nrm, kb_ret, kend_ret, kend_nrm, finN_bool, beq_self_eq_true, beq_false, beq_true, Bool.false_eq_true, BEq.rfl, Bool.not_eq_true, reduceCtorEq, big, D1, D2, ka, kg, ga, sA, sZ, lA, lB, lZ, lY, s1, s2, s3, ne1, ne2, rd1', kq1, kt, kf, r1, r2, kqz, kqz']
      try simp only [S.laws_FnEntries.n7, S.laws_FnEntries.n8, S.laws_FnEntries.n12, S.laws_FnEntries.n13, S.laws_FnEntries.n15, S.laws_FnEntries.g15_0, Option.bind_some, kr_mk, kxt_tup, List.getElem?_cons_zero, List.getElem?_cons_succ, kcond_bool, cond_true, cond_false, kun_not, Bool.not_true, Bool.not_false, kpick_bool, tr_bool, tr_un, kx_nrm, kx_ret, kb_nrm, kb_ret, kend_ret, kend_nrm, finN_bool, beq_self_eq_true, beq_false, beq_true, Bool.false_eq_true, BEq.rfl, Bool.not_eq_true, reduceCtorEq, big, D1, D2, ka, kg, ga, sA, sZ, lA, lB, lZ, lY, s1, s2, s3, ne1, ne2, rd1', kq1, kt, kf, r1, r2, kqz, kqz']
      try simp only [S.laws_FnEntries.g15_1, S.laws_FnEntries.g15_2, S.laws_FnEntries.n14, S.laws_FnEntries.n9, S.laws_FnEntries.n11, S.laws_FnEntries.g11_0, Option.bind_some, kr_mk, kxt_tup, List.getElem?_cons_zero, List.getElem?_cons_succ, kcond_bool, cond_true, cond_false, kun_not, Bool.not_true, Bool.not_false, kpick_bool, tr_bool, tr_un, kx_nrm, kx_ret, kb_nrm, kb_ret, kend_ret, kend_nrm, finN_bool, beq_self_eq_true, beq_false, beq_true, Bool.false_eq_true, BEq.rfl, Bool.not_eq_true, reduceCtorEq, big, D1, D2, ka, kg, ga, sA, sZ, lA, lB, lZ, lY, s1, s2, s3, ne1, ne2, rd1', kq1, kt, kf, r1, r2, kqz, kqz']
      try simp only [S.laws_FnEntries.g11_1, S.laws_FnEntries.g11_2, S.laws_FnEntries.g11_3, S.laws_FnEntries.g11_4, S.laws_FnEntries.g11_5, S.laws_FnEntries.g11_6, Option.bind_some, kr_mk, kxt_tup, List.getElem?_cons_zero, List.getElem?_cons_succ, kcond_bool, cond_true, cond_false, kun_not, Bool.not_true, Bool.not_false, kpick_bool, tr_bool, tr_un, kx_nrm, kx_ret, kb_nrm, kb_ret, kend_ret, kend_nrm, finN_bool, beq_self_eq_true, beq_false, beq_true, Bool.false_eq_true, BEq.rfl, Bool.not_eq_true, reduceCtorEq, big, D1, D2, ka, kg, ga, sA, sZ, lA, lB, lZ, lY, s1, s2, s3, ne1, ne2, rd1', kq1, kt, kf, r1, r2, kqz, kqz']
      try simp only [S.laws_FnEntries.n10, Option.bind_some, kr_mk, kxt_tup, List.getElem?_cons_zero, List.getElem?_cons_succ, kcond_bool, cond_true, cond_false, kun_not, Bool.not_true, Bool.not_false, kpick_bool, tr_bool, tr_un, kx_nrm, kx_ret, kb_nrm, kb_ret, kend_ret, kend_nrm, finN_bool, beq_self_eq_true, beq_false, beq_true, Bool.false_eq_true, BEq.rfl, Bool.not_eq_true, reduceCtorEq, big, D1, D2, ka, kg, ga, sA, sZ, lA, lB, lZ, lY, s1, s2, s3, ne1, ne2, rd1', kq1, kt, kf, r1, r2, kqz, kqz']
  | false =>
    rw [hp] at s3 ne2
    generalize GV.str (bs (showM k c q l)) = SH at *
    generalize GV.str (bs t) = T at *
    rcases rd2 with ⟨k2, c2, q2, l2, r1, r2, r3⟩ | ⟨r1, r2⟩
    · have kq2 := keqS_ent k2 c2 q2 (bs l2)
      simp only [S.laws_FnEntries.run, S.laws_FnEntries.n0, S.laws_FnEntries.n1, S.laws_FnEntries.n2, S.laws_FnEntries.n3, S.laws_FnEntries.n4, Option.bind_some, kr_mk, kxt_tup, List.getElem?_cons_zero, List.getElem?_cons_succ, kcond_bool, cond_true, cond_false, kun_not, Bool.not_true, Bool.not_false, kpick_bool, tr_bool, tr_un, kx_nrm, kx_ret, kb_nrm, kb_ret, kend_ret, kend_nrm, finN_bool, beq_self_eq_true, beq_false, beq_true, Bool.false_eq_true, BEq.rfl, Bool.not_eq_true, reduceCtorEq, big, D1, D2, ka, sA, lA, lB, s1, s2, s3, ne1, ne2, kq1, kt, kf, r1, r2, r3, kq2, eqT]
      try simp only [S.laws_FnEntries.n28, S.laws_FnEntries.n30, S.laws_FnEntries.g30_0, S.laws_FnEntries.g30_1, S.laws_FnEntries.g30_2, S.laws_FnEntries.n29, Option.bind_some, kr_mk, kxt_tup, List.getElem?_cons_zero, List.getElem?_cons_succ, kcond_bool, cond_true, cond_false, kun_not, Bool.not_true, Bool.not_false, kpick_bool, tr_bool, tr_un, kx_nrm, kx_ret, kb_nrm, kb_ret, kend_ret, kend_nrm, finN_bool, beq_self_eq_true, beq_false, beq_true, Bool.false_eq_true, BEq.rfl, Bool.not_eq_true, reduceCtorEq, big, D1, D2, ka, sA, lA, lB, s1, s2, s3, ne1, ne2, kq1, kt, kf, r1, r2, r3, kq2, eqT]
      try simp only [S.laws_FnEntries.n5, S.laws_FnEntries.n19, S.laws_FnEntries.n20, S.laws_FnEntries.n21, S.laws_FnEntries.n22, S.laws_FnEntries.n24, Option.bind_some, kr_mk, kxt_tup, List.getElem?_cons_zero, List.getElem?_cons_succ, kcond_bool, cond_true, cond_false, kun_not, Bool.not_true, Bool.not_false, kpick_bool, tr_bool, tr_un, kx_nrm, kx_ret, kb_nrm, kb_ret, kend_ret, kend_nrm, finN_bool, beq_self_eq_true, beq_false, beq_true, Bool.false_eq_true, BEq.rfl, Bool.not_eq_true, reduceCtorEq, big, D1, D2, ka, sA, lA, lB, s1, s2, s3, ne1, ne2, kq1, kt, kf, r1, r2, r3, kq2, eqT]
      try simp only [S.laws_FnEntries.g24_0, S.laws_FnEntries.g24_1, S.laws_FnEntries.g24_2, S.laws_FnEntries.n23, S.laws_FnEntries.n26, S.laws_FnEntries.n6, Option.bind_some, kr_mk, kxt_tup, List.getElem?_cons_zero, List.getElem?_cons_succ, kcond_bool, cond_true, cond_false, kun_not, Bool.not_true, Bool.not_false, kpick_bool, tr_bool, tr_un, kx_nrm, kx_ret, kb_nrm, kb_ret, kend_ret, kend_nrm, finN_bool, beq_self_eq_true, beq_false, beq_true, Bool.false_eq_true, BEq.rfl, Bool.not_eq_true, reduceCtorEq, big, D1, D2, ka, sA, lA, lB, s1, s2, s3, ne1, ne2, kq1, kt, kf, r1, r2, r3, kq2, eqT]
      try simp only [S.laws_FnEntries.n7, S.laws_FnEntries.n8, S.laws_FnEntries.n12, S.laws_FnEntries.n13, S.laws_FnEntries.n15, S.laws_FnEntries.g15_0, Option.bind_some, kr_mk, kxt_tup, List.getElem?_cons_zero, List.getElem?_cons_succ, kcond_bool, cond_true, cond_false, kun_not, Bool.not_true, Bool.not_false, kpick_bool, tr_bool, tr_un, kx_nrm, kx_ret, kb_nrm, kb_ret, kend_ret, kend_nrm, finN_bool, beq_self_eq_true, beq_false, beq_true, Bool.false_eq_true, BEq.rfl, Bool.not_eq_true, reduceCtorEq, big, D1, D2, ka, sA, lA, lB, s1, s2, s3, ne1, ne2, kq1, kt, kf, r1, r2, r3, kq2, eqT]
      try simp only [S.laws_FnEntries.g15_1, S.laws_FnEntries.g15_2, S.laws_FnEntries.n14, S.laws_FnEntries.n9, S.laws_FnEntries.n11, S.laws_FnEntries.g11_0, Option.bind_some, kr_mk, kxt_tup, List.getElem?_cons_zero, List.getElem?_cons_succ, kcond_bool, cond_true, cond_false, kun_not, Bool.not_true, Bool.not_false, kpick_bool, tr_bool, tr_un, kx_nrm, kx_ret, kb_nrm, kb_ret, kend_ret, kend_nrm, finN_bool, beq_self_eq_true, beq_false, beq_true, Bool.false_eq_true, BEq.rfl, Bool.not_eq_true, reduceCtorEq, big, D1, D2, ka, sA, lA, lB, s1, s2, s3, ne1, ne2, kq1, kt, kf, r1, r2, r3, kq2, eqT]
      try simp only [S.laws_FnEntries.g11_1, S.laws_FnEntries.g11_2, S.laws_FnEntries.g11_3, S.laws_FnEntries.g11_4, S.laws_FnEntries.g11_5, S.laws_FnEntries.g11_6, Option.bind_some, kr_mk, kxt_tup, List.getElem?_cons_zero, List.getElem?_cons_succ, kcond_bool, cond_true, cond_false, kun_not, Bool.not_true, Bool.not_false, kpick_bool, tr_bool, tr_un, kx_nrm, kx_ret, kb_nrm, kb_ret, kend_ret, kend_nrm, finN_bool, beq_self_eq_true, beq_false, beq_true, Bool.false_eq_true, BEq.rfl, Bool.not_eq_true, reduceCtorEq, big, D1, D2, ka, sA, lA, lB, s1, s2, s3, ne1, ne2, kq1, kt, kf, r1, r2, r3, kq2, eqT]
      try simp only [S.laws_FnEntries.n10, Option.bind_some, kr_mk, kxt_tup, List.getElem?_cons_zero, List.getElem?_cons_succ, kcond_bool, cond_true, cond_false, kun_not, Bool.not_true, Bool.not_false, kpick_bool, tr_bool, tr_un, kx_nrm, kx_ret, kb_nrm, kb_ret, kend_ret, kend_nrm, finN_bool, beq_self_eq_true, beq_false, beq_true, Bool.false_eq_true, BEq.rfl, Bool.not_eq_true, reduceCtorEq, big, D1, D2, ka, sA, lA, lB, s1, s2, s3, ne1, ne2, kq1, kt, kf, r1, r2, r3, kq2, eqT]
    · skip
      simp only [S.laws_FnEntries.run, S.laws_FnEntries.n0, S.laws_FnEntries.n1, S.laws_FnEntries.n2, S.laws_FnEntries.n3, S.laws_FnEntries.n4, Option.bind_some, kr_mk, kxt_tup, List.getElem?_cons_zero, List.getElem?_cons_succ, kcond_bool, cond_true, cond_false, kun_not, Bool.not_true, Bool.not_false, kpick_bool, tr_bool, tr_un, kx_nrm, kx_ret, kb_nrm, kb_ret, kend_ret, kend_nrm, finN_bool, beq_self_eq_true, beq_false, beq_true, Bool.false_eq_true, BEq.rfl, Bool.not_eq_true, reduceCtorEq, big, D1, D2, ka, kg, ga, sA, sZ, lA, lB, lZ, lY, s1, s2, s3, ne1, ne2, kq1, kt, kf, r1, r2, kqz, kqz']
      try simp only [S.laws_FnEntries.n28, S.laws_FnEntries.n30, S.laws_FnEntries.g30_0, S.laws_FnEntries.g30_1, S.laws_FnEntries.g30_2, S.laws_FnEntries.n29, Option.bind_some, kr_mk, kxt_tup, List.getElem?_cons_zero, List.getElem?_cons_succ, kcond_bool, cond_true, cond_false, kun_not, Bool.not_true, Bool.not_false, kpick_bool, tr_bool, tr_un, kx_nrm, kx_ret, kb_nrm, kb_ret, kend_ret, kend_nrm, finN_bool, beq_self_eq_true, beq_false, beq_true, Bool.false_eq_true, BEq.rfl, Bool.not_eq_true, reduceCtorEq, big, D1, D2, ka, kg, ga, sA, sZ, lA, lB, lZ, lY, s1, s2, s3, ne1, ne2, kq1, kt, kf, r1, r2, kqz, kqz']
      try simp only [S.laws_FnEntries.n5, S.laws_FnEntries.n19, S.laws_FnEntries.n20, S.laws_FnEntries.n21, S.laws_FnEntries.n22, S.laws_FnEntries.n24, Option.bind_some, kr_mk, kxt_tup, List.getElem?_cons_zero, List.getElem?_cons_succ, kcond_bool, cond_true, cond_false, kun_not, Bool.not_true, Bool.not_false, kpick_bool, tr_bool, tr_un, kx_nrm, kx_ret, kb_nrm, kb_ret, kend_ret, kend_nrm, finN_bool, beq_self_eq_true, beq_false, beq_true, Bool.false_eq_true, BEq.rfl, Bool.not_eq_true, reduceCtorEq, big, D1, D2, ka, kg, ga, sA, sZ, lA, lB, lZ, lY, s1, s2, s3, ne1, ne2, kq1, kt, kf, r1, r2, kqz, kqz']
      try simp only [S.laws_FnEntries.g24_0, S.laws_FnEntries.g24_1, S.laws_FnEntries.g24_2, S.laws_FnEntries.n23, S.laws_FnEntries.n26, S.laws_FnEntries.n6, Option.bind_some, kr_mk, kxt_tup, List.getElem?_cons_zero, List.getElem?_cons_succ, kcond_bool, cond_true, cond_false, kun_not, Bool.not_true, Bool.not_false, kpick_bool, tr_bool, tr_un, kx_nrm, kx_ret, kb_nrm, kb_ret, kend_ret, kend_nrm, finN_bool, beq_self_eq_true, beq_false, beq_true, Bool.false_eq_true, BEq.rfl, Bool.not_eq_true, reduceCtorEq, big, D1, D2, ka, kg, ga, sA, sZ, lA, lB, lZ, lY, s1, s2, s3, ne1, ne2, kq1, kt, kf, r1, r2, kqz, kqz']
      try simp only [S.laws_FnEntries.n7, S.laws_FnEntries.n8, S.laws_FnEntries.n12, S.laws_FnEntries.n13, S.laws_FnEntries.n15, S.laws_FnEntries.g15_0, Option.bind_some, kr_mk, kxt_tup, List.getElem?_cons_zero, List.getElem?_cons_succ, kcond_bool, cond_true, cond_false, kun_not, Bool.not_true, Bool.not_false, kpick_bool, tr_bool, tr_un, kx_nrm, kx_ret, kb_nrm, kb_ret, kend_ret, kend_nrm, finN_bool, beq_self_eq_true, beq_false, beq_true, Bool.false_eq_true, BEq.rfl, Bool.not_eq_true, reduceCtorEq, big, D1, D2, ka, kg, ga, sA, sZ, lA, lB, lZ, lY, s1, s2, s3, ne1, ne2, kq1, kt, kf, r1, r2, kqz, kqz']
      try simp only [S.laws_FnEntries.g15_1, S.laws_FnEntries.g15_2, S.laws_FnEntries.n14, S.laws_FnEntries.n9, S.laws_FnEntries.n11, S.laws_FnEntries.g11_0, Option.bind_some, kr_mk, kxt_tup, List.getElem?_cons_zero, List.getElem?_cons_succ, kcond_bool, cond_true, cond_false, kun_not, Bool.not_true, Bool.not_false, kpick_bool, tr_bool, tr_un, kx_nrm, kx_ret, kb_nrm, kb_ret, kend_ret, kend_nrm, finN_bool, beq_self_eq_true, beq_false, beq_true, Bool.false_eq_true, BEq.rfl, Bool.not_eq_true, reduceCtorEq, big, D1, D2, ka, kg, ga, sA, sZ, lA, lB, lZ, lY, s1, s2, s3, ne1, ne2, kq1, kt, kf, r1, r2, kqz, kqz']
      try simp only [S.laws_FnEntries.g11_1, S.laws_FnEntries.g11_2, S.laws_FnEntries.g11_3, S.laws_FnEntries.g11_4, S.laws_FnEntries.g11_5, S.laws_FnEntries.g11_6, Option.bind_some, kr_mk, kxt_tup, List.getElem?_cons_zero, List.getElem?_cons_succ, kcond_bool, cond_true, cond_false, kun_not, Bool.not_true, Bool.not_false, kpick_bool, tr_bool, tr_un, kx_nrm, kx_ret, kb_nrm, kb_ret, kend_ret, kend_nrm, finN_bool, beq_self_eq_true, beq_false, beq_true, Bool.false_eq_true, BEq.rfl, Bool.not_eq_true, reduceCtorEq, big, D1, D2, ka, kg, ga, sA, sZ, lA, lB, lZ, lY, s1, s2, s3, ne1, ne2, kq1, kt, kf, r1, r2, kqz, kqz']
      try simp only [S.laws_FnEntries.n10, Option.bind_some, kr_mk, kxt_tup, List.getElem?_cons_zero, List.getElem?_cons_succ, kcond_bool, cond_true, cond_false, kun_not, Bool.not_true, Bool.not_false, kpick_bool, tr_bool, tr_un, kx_nrm, kx_ret, kb_nrm, kb_ret, kend_ret, kend_nrm, finN_bool, beq_self_eq_true, beq_false, beq_true, Bool.false_eq_true, BEq.rfl, Bool.not_eq_true, reduceCtorEq, big, D1, D2, ka, kg, ga, sA, sZ, lA, lB, lZ, lY, s1, s2, s3, ne1, ne2, kq1, kt, kf, r1, r2, kqz, kqz']
end Go.Proofs.YtklhdbkaejbajaaDoor.G
