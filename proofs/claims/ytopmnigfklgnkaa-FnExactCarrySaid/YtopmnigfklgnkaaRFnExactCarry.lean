/- The law FnExactCarry, for all data. -/
import Derived.Test.YtopmnigfklgnkaaTXCarry
import Derived.Test.YtopmnigfklgnkaaSLFnExactCarry
namespace Go.Proofs.Ytopmnigfklgnkaa.G
open Go.RowKit
set_option linter.unusedVariables false
set_option linter.unusedSimpArgs false
theorem FnExactCarry_row (a0 : (List ((List (ByteArray) × Int)) × List (List (ByteArray)) × List (List (Int)))) (i0 : (inSl (fun x1 : (List (ByteArray) × Int) => inSl (fun x2 : ByteArray => x2.size ≤ maxLen) x1.1 ∧ (Lit.int .i64 x1.2).wf = true) a0.1) ∧ (inSl (fun x1 : List (ByteArray) => inSl (fun x2 : ByteArray => x2.size ≤ maxLen) x1) a0.2.1 ∧ inSl (fun x1 : List (Int) => inSl (fun x2 : Int => (Lit.int .i64 x2).wf = true) x1) a0.2.2)) (a1 : Int) (i1 : (Lit.int .i64 a1).wf = true) : NN fn.laws_FnExactCarry [(.agg [fzl true 2 (fun x1 : (List (ByteArray) × Int) => [fzl true 1 (fun x2 : ByteArray => [GV.str x2]) x1.1, GV.int .i64 x1.2]) a0.1, fzl true 1 (fun x1 : List (ByteArray) => [fzl true 1 (fun x2 : ByteArray => [GV.str x2]) x1]) a0.2.1, fzl true 1 (fun x1 : List (Int) => [fzl true 1 (fun x2 : Int => [GV.int .i64 x2]) x1]) a0.2.2]), (GV.int .i64 a1)] = some (.bool true) := by
  obtain ⟨xs, ds, us⟩ := a0
  simp only at i0
  have sz0 := laws_szChain_spec xs ds us 1048576 i0 (by omega) (by omega)
  obtain ⟨a, ha⟩ : ∃ a : ChainT, (xs, ds, us) = a := ⟨_, rfl⟩
  show NN fn.laws_FnExactCarry [.agg (mChain true (xs, ds, us)), .int .i64 a1] = some (.bool true)
  have sz : NN fn.laws_szChain [.agg (mChain true (xs, ds, us)), .int .i64 1048576] = _ := sz0
  have bM : ∀ (H : Heap) (gs zs : List GV), bors H gs = some zs → bors H (.agg (mChain true (xs, ds, us)) :: gs) = some (.agg (mChain true (xs, ds, us)) :: zs) := fun H gs zs h => by
    rw [bors_cons, h]; simp
  rw [ha] at sz bM ⊢
  have hML : (mChain true a).length = 3 := rfl
  obtain ⟨M, hM⟩ : ∃ M, mChain true a = M := ⟨_, rfl⟩
  rw [hM] at sz bM hML ⊢
  apply S.laws_FnExactCarry.gives (k := 0)
  obtain ⟨H0, hH0⟩ : ∃ H0 : Heap, [M] = H0 := ⟨_, rfl⟩
  have hbox : ∀ {Q : Type} (K : GV → Heap → Option Q), kbox (.agg M) [] K = K (.ptr 0 0 3) H0 := fun K => by rw [kbox_agg, hML, ← hH0]; rfl
  have A0 : H0[0]? = some M := by rw [← hH0]; rfl
  have l0 : 0 < H0.length := by rw [← hH0]; simp
  have sz' : kN NN fn.laws_szChain [.agg M, .int .i64 1048576] H0 = _ := kN_at (bM _ _ _ rfl) sz
  by_cases h : (1048576 : Int) < (zChain a : Int)
  · rw [if_pos h] at sz'
    simp [S.laws_FnExactCarry.run, hbox, kloadA_at A0 hML, sz', -kN_eq]
  rw [if_neg h] at sz'
  have hz : zChain a ≤ 1048576 := by omega
  have hm : okChain a := okChain_of hz
  have h1 : ¬ ((1048576 : Int) - (zChain a : Int) < 0) := by omega
  have toC := fun H => fresh_agg goodChain (f := fn.laws_toChain) (args := [.agg M]) (xs := [.agg M]) (H := H) (x := a) (bM _ _ _ rfl) (by rw [← hM]; exact laws_toChain_spec a hm H.length)
  have okr : okChain (onM a (carryM a a1)).1 := carryM_ok a hm hz a1
  have sp := spec_Carry_spec a hm a1
  have im := impl_Carry_spec a hm a1
  obtain ⟨a', t, hres⟩ : ∃ a' t, onM a (carryM a a1) = (a', t) := ⟨_, _, rfl⟩
  rw [hres] at okr sp
  simp only [hres] at im okr sp
  have im' := fun (H : Heap) (c : List GV) (R : List Nat) (hr : rChain H c a R) => fresh_tup goodChain (t := t) (f := fn.impl_Carry) (args := [.agg c, .int .i64 a1]) (xs := [.agg (mChain true a), .int .i64 a1]) (H := H) (x := a') (bors_agg goodChain (by omega) hr (gs := [.int .i64 a1]) (xs := [.int .i64 a1]) rfl) (im H.length)
  have cl := cChain_le hm
  have cl2 := cChain_le okr
  have bW : ∀ (H : Heap) (gs zs : List GV), bors H gs = some zs → bors H (.agg (mChain false a') :: gs) = some (.agg (mChain true a') :: zs) := fun H gs zs h => by
    rw [bors_cons, h]; simp
  have hWL : (mChain false a').length = 3 := rfl
  have hWc : (mChain false a').all GV.isCell = true := by simp
  obtain ⟨W, hW⟩ : ∃ W, mChain false a' = W := ⟨_, rfl⟩
  rw [hW] at bW hWL hWc sp
  -- what the reference says
  obtain ⟨c1, R1, H1, t1, r1, n1, b1, f1, l1⟩ := toC H0
  have A1 := f1.blk A0 no_nil
  have s1 : kN NN fn.spec_Carry [.agg c1, .int .i64 a1] H1 = some (.tup [.agg W, .bool t]) := kN_at (bors_agg goodChain (by omega) r1 (gs := [.int .i64 a1]) (xs := [.int .i64 a1]) rfl) sp
  have v1 := var_at (H := H1) (z := [.nils, .nils, .nils]) (c := W) (n := 3) rfl hWL hWc
  obtain ⟨H2, hH2⟩ : ∃ H2, H1 ++ [W] = H2 := ⟨_, rfl⟩
  have f2 : Fr [] H1 H2 := by rw [← hH2]; exact .app
  have l2 : H2.length = H1.length + 1 := by rw [← hH2]; simp
  have W2 : H2[H1.length]? = some W := by rw [← hH2]; simp
  rw [hH2] at v1
  have A2 := f2.blk A1 no_nil
  -- the argument of the program
  obtain ⟨c2, R2, H3, t3, r3, n3, b3, f3, l3⟩ := toC H2
  have A3 := f3.blk A2 no_nil
  have W3 := f3.blk W2 no_nil
  have cl' := goodChain.len r3
  have v3 := var_at (H := H3) (z := [.nils, .nils, .nils]) (c := c2) (n := 3) rfl cl' (goodChain.cell r3)
  obtain ⟨H4, hH4⟩ : ∃ H4, H3 ++ [c2] = H4 := ⟨_, rfl⟩
  have f4 : Fr [] H3 H4 := by rw [← hH4]; exact .app
  have l4 : H4.length = H3.length + 1 := by rw [← hH4]; simp
  have X4 : H4[H3.length]? = some c2 := by rw [← hH4]; simp
  rw [hH4] at v3
  have A4 := f4.blk A3 no_nil
  have W4 := f4.blk W3 no_nil
  have r4 := goodChain.keep r3 f4 (fun _ _ => no_nil)
  -- the program
  obtain ⟨g, Rg, H5, t5, r5, n5, b5, f5, l5⟩ := im' H4 c2 R2 r4
  have A5 := f5.blk A4 no_nil
  have W5 := f5.blk W4 no_nil
  have X5 := f5.blk X4 no_nil
  have r5c := goodChain.keep r4 f5 (fun _ _ => no_nil)
  have clg := goodChain.len r5
  have v5 := var_at (H := H5) (z := [.nils, .nils, .nils]) (c := g) (n := 3) rfl clg (goodChain.cell r5)
  obtain ⟨H6, hH6⟩ : ∃ H6, H5 ++ [g] = H6 := ⟨_, rfl⟩
  have f6 : Fr [] H5 H6 := by rw [← hH6]; exact .app
  have l6 : H6.length = H5.length + 1 := by rw [← hH6]; simp
  have G6 : H6[H5.length]? = some g := by rw [← hH6]; simp
  rw [hH6] at v5
  have A6 := f6.blk A5 no_nil
  have W6 := f6.blk W5 no_nil
  have X6 := f6.blk X5 no_nil
  have r6c := goodChain.keep r5c f6 (fun _ _ => no_nil)
  have r6g := goodChain.keep r5 f6 (fun _ _ => no_nil)
  have ec : ∀ x : ChainT, okChain x → NN fn.laws_eqChain [.agg (mChain true x), .agg (mChain true x)] = some (.bool true) := fun x hx => by
    have := laws_eqChain_spec x.1 x.1 x.2.1 x.2.1 x.2.2 x.2.2 hx
    rw [decide_eq_true rfl] at this
    exact this
  have e6 : kN NN fn.laws_eqChain [.agg g, .agg W] H6 = some (.bool true) := kN_at (bors_agg goodChain (by omega) r6g (bW _ _ _ rfl)) (ec a' okr)
  -- the argument is as it was
  obtain ⟨c7, R7, H7, t7, r7, n7, b7, f7, l7⟩ := toC H6
  have A7 := f7.blk A6 no_nil
  have W7 := f7.blk W6 no_nil
  have X7 := f7.blk X6 no_nil
  have G7 := f7.blk G6 no_nil
  have r7c := goodChain.keep r6c f7 (fun _ _ => no_nil)
  have r7g := goodChain.keep r6g f7 (fun _ _ => no_nil)
  have e7 : kN NN fn.laws_eqChain [.agg c2, .agg c7] H7 = some (.bool true) := kN_at (bors_agg goodChain (by omega) r7c (bors_agg goodChain (by omega) r7 rfl)) (ec a hm)
  -- marks in the argument
  obtain ⟨H8, m8, r8c, f8⟩ := laws_markChain_spec H7 c2 a R2 1 hm r7c n3 (by omega)
  have l8 := f8.1
  have A8 := f8.blk A7 (b3.no (by omega))
  have W8 := f8.blk W7 (b3.no (by omega))
  have G8 := f8.blk G7 (b3.no (by omega))
  have r8g := goodChain.keep r7g f8 (b5.apart b3 (by omega))
  have e8 : kN NN fn.laws_eqChain [.agg g, .agg W] H8 = some (.bool true) := kN_at (bors_agg goodChain (by omega) r8g (bW _ _ _ rfl)) (ec a' okr)
  have p8 : ¬ ((((1 + cChain a : Nat) : Int)) < 0) := by omega
  -- marks in what came back
  obtain ⟨H9, m9, r9g, f9⟩ := laws_markChain_spec H8 g a' Rg 1 okr r8g n5 (by omega)
  have l9 := f9.1
  have A9 := f9.blk A8 (b5.no (by omega))
  have W9 := f9.blk W8 (b5.no (by omega))
  have G9 := f9.blk G8 (b5.no (by omega))
  have hd := laws_heldChain_spec a' 1 okr (by omega)
  have bi : ∀ H : Heap, bors H [.int .i64 ((1 : Nat) : Int)] = some [.int .i64 ((1 : Nat) : Int)] := fun _ => rfl
  have q9 : kN NN fn.laws_heldChain [.agg g, .int .i64 ((1 : Nat) : Int)] H9 = some (.int .i64 ((1 + cChain a' : Nat) : Int)) := kN_at (bors_agg goodChain (by omega) r9g (bi _)) hd
  have p9 : ¬ ((((1 + cChain a' : Nat) : Int)) < 0) := by omega
  -- once more
  obtain ⟨c10, R10, H10, t10, r10, n10, b10, f10, l10⟩ := toC H9
  have W10 := f10.blk W9 no_nil
  have G10 := f10.blk G9 no_nil
  have r10g := goodChain.keep r9g f10 (fun _ _ => no_nil)
  obtain ⟨g11, R11, H11, t11, r11, n11, b11, f11, l11⟩ := im' H10 c10 R10 r10
  have W11 := f11.blk W10 no_nil
  have G11 := f11.blk G10 no_nil
  have r11g := goodChain.keep r10g f11 (fun _ _ => no_nil)
  have cl11 := goodChain.len r11
  have v11 := var_at (H := H11) (z := [.nils, .nils, .nils]) (c := g11) (n := 3) rfl cl11 (goodChain.cell r11)
  obtain ⟨H12, hH12⟩ : ∃ H12, H11 ++ [g11] = H12 := ⟨_, rfl⟩
  have f12 : Fr [] H11 H12 := by rw [← hH12]; exact .app
  have G12n : H12[H11.length]? = some g11 := by rw [← hH12]; simp
  rw [hH12] at v11
  have W12 := f12.blk W11 no_nil
  have G12 := f12.blk G11 no_nil
  have r12 := goodChain.keep r11 f12 (fun _ _ => no_nil)
  have r12g := goodChain.keep r11g f12 (fun _ _ => no_nil)
  have e12 : kN NN fn.laws_eqChain [.agg g11, .agg W] H12 = some (.bool true) := kN_at (bors_agg goodChain (by omega) r12 (bW _ _ _ rfl)) (ec a' okr)
  have q12 : kN NN fn.laws_heldChain [.agg g, .int .i64 ((1 : Nat) : Int)] H12 = some (.int .i64 ((1 + cChain a' : Nat) : Int)) := kN_at (bors_agg goodChain (by omega) r12g (bi _)) hd
  simp only [show ((1 : Nat) : Int) = 1 from rfl] at m8 m9 q9 q12
  have kn8 : kbin .lss (.int .i64 ((1 + cChain a : Nat) : Int)) (.int .i64 0) = some (.bool false) := by rw [kbin_lss, decide_eq_false p8]
  have kn9 : kbin .lss (.int .i64 ((1 + cChain a' : Nat) : Int)) (.int .i64 0) = some (.bool false) := by rw [kbin_lss, decide_eq_false p9]
  have kq9 : kbin .neq (.int .i64 ((1 + cChain a' : Nat) : Int)) (.int .i64 ((1 + cChain a' : Nat) : Int)) = some (.bool false) := by simp
  have ksz : kbin .lss (.int .i64 (1048576 - (zChain a : Int))) (.int .i64 0) = some (.bool false) := by rw [kbin_lss, decide_eq_false h1]
  have kt : keqB .neq (.bool t) (.bool t) = some (.bool false) := by cases t <;> rfl
  simp only [S.laws_FnExactCarry.run, S.laws_FnExactCarry.n0, S.laws_FnExactCarry.n1, S.laws_FnExactCarry.n2, Option.bind_some, kr_mk, kxt_tup, List.getElem?_cons_zero, List.getElem?_cons_succ, kcond_bool, cond_true, cond_false, kun_not, Bool.not_true, Bool.not_false, kpick_bool, tr_bool, kx_nrm, kx_ret, kb_nrm, kb_ret, kend_ret, finN_bool, klenS_str, beq_self_eq_true, beq_false, Bool.false_eq_true, BEq.rfl, Bool.beq_eq_decide_eq, decide_true, decide_false, reduceCtorEq, hbox, kloadA_at A0 hML, sz', ksz, t1, s1, kalloc_at, v1, kloadA_at A2 hML, t3, v3, kloadA_at X4 cl', t5, v5, kloadA_at G6 clg, kloadA_at W6 hWL, e6, kt, kloadA_at X6 cl', kloadA_at A6 hML, t7, e7, kloadA_at X7 cl', m8, kn8, kloadA_at G8 clg, kloadA_at W8 hWL, e8, m9, kloadA_at G9 clg, q9, kn9, kq9, kloadA_at A9 hML, t10, t11, v11, kloadA_at G12n cl11, kloadA_at W12 hWL, e12, kloadA_at G12 clg, q12, hH2, hH4, hH6, hH12, List.length_cons, List.length_nil, Nat.zero_add, Nat.reduceAdd]
  try simp only [S.laws_FnExactCarry.n3, S.laws_FnExactCarry.n4, S.laws_FnExactCarry.n5, S.laws_FnExactCarry.n6, Option.bind_some, kr_mk, kxt_tup, List.getElem?_cons_zero, List.getElem?_cons_succ, kcond_bool, cond_true, cond_false, kun_not, Bool.not_true, Bool.not_false, kpick_bool, tr_bool, kx_nrm, kx_ret, kb_nrm, kb_ret, kend_ret, finN_bool, klenS_str, beq_self_eq_true, beq_false, Bool.false_eq_true, BEq.rfl, Bool.beq_eq_decide_eq, decide_true, decide_false, reduceCtorEq, hbox, kloadA_at A0 hML, sz', ksz, t1, s1, kalloc_at, v1, kloadA_at A2 hML, t3, v3, kloadA_at X4 cl', t5, v5, kloadA_at G6 clg, kloadA_at W6 hWL, e6, kt, kloadA_at X6 cl', kloadA_at A6 hML, t7, e7, kloadA_at X7 cl', m8, kn8, kloadA_at G8 clg, kloadA_at W8 hWL, e8, m9, kloadA_at G9 clg, q9, kn9, kq9, kloadA_at A9 hML, t10, t11, v11, kloadA_at G12n cl11, kloadA_at W12 hWL, e12, kloadA_at G12 clg, q12, hH2, hH4, hH6, hH12, List.length_cons, List.length_nil, Nat.zero_add, Nat.reduceAdd]
  try simp only [S.laws_FnExactCarry.n7, S.laws_FnExactCarry.n37, S.laws_FnExactCarry.n39, S.laws_FnExactCarry.g39_0, Option.bind_some, kr_mk, kxt_tup, List.getElem?_cons_zero, List.getElem?_cons_succ, kcond_bool, cond_true, cond_false, kun_not, Bool.not_true, Bool.not_false, kpick_bool, tr_bool, kx_nrm, kx_ret, kb_nrm, kb_ret, kend_ret, finN_bool, klenS_str, beq_self_eq_true, beq_false, Bool.false_eq_true, BEq.rfl, Bool.beq_eq_decide_eq, decide_true, decide_false, reduceCtorEq, hbox, kloadA_at A0 hML, sz', ksz, t1, s1, kalloc_at, v1, kloadA_at A2 hML, t3, v3, kloadA_at X4 cl', t5, v5, kloadA_at G6 clg, kloadA_at W6 hWL, e6, kt, kloadA_at X6 cl', kloadA_at A6 hML, t7, e7, kloadA_at X7 cl', m8, kn8, kloadA_at G8 clg, kloadA_at W8 hWL, e8, m9, kloadA_at G9 clg, q9, kn9, kq9, kloadA_at A9 hML, t10, t11, v11, kloadA_at G12n cl11, kloadA_at W12 hWL, e12, kloadA_at G12 clg, q12, hH2, hH4, hH6, hH12, List.length_cons, List.length_nil, Nat.zero_add, Nat.reduceAdd]
  try simp only [S.laws_FnExactCarry.g39_1, S.laws_FnExactCarry.g39_2, S.laws_FnExactCarry.n38, S.laws_FnExactCarry.n8, Option.bind_some, kr_mk, kxt_tup, List.getElem?_cons_zero, List.getElem?_cons_succ, kcond_bool, cond_true, cond_false, kun_not, Bool.not_true, Bool.not_false, kpick_bool, tr_bool, kx_nrm, kx_ret, kb_nrm, kb_ret, kend_ret, finN_bool, klenS_str, beq_self_eq_true, beq_false, Bool.false_eq_true, BEq.rfl, Bool.beq_eq_decide_eq, decide_true, decide_false, reduceCtorEq, hbox, kloadA_at A0 hML, sz', ksz, t1, s1, kalloc_at, v1, kloadA_at A2 hML, t3, v3, kloadA_at X4 cl', t5, v5, kloadA_at G6 clg, kloadA_at W6 hWL, e6, kt, kloadA_at X6 cl', kloadA_at A6 hML, t7, e7, kloadA_at X7 cl', m8, kn8, kloadA_at G8 clg, kloadA_at W8 hWL, e8, m9, kloadA_at G9 clg, q9, kn9, kq9, kloadA_at A9 hML, t10, t11, v11, kloadA_at G12n cl11, kloadA_at W12 hWL, e12, kloadA_at G12 clg, q12, hH2, hH4, hH6, hH12, List.length_cons, List.length_nil, Nat.zero_add, Nat.reduceAdd]
  try simp only [S.laws_FnExactCarry.n9, S.laws_FnExactCarry.n10, S.laws_FnExactCarry.n11, S.laws_FnExactCarry.n31, Option.bind_some, kr_mk, kxt_tup, List.getElem?_cons_zero, List.getElem?_cons_succ, kcond_bool, cond_true, cond_false, kun_not, Bool.not_true, Bool.not_false, kpick_bool, tr_bool, kx_nrm, kx_ret, kb_nrm, kb_ret, kend_ret, finN_bool, klenS_str, beq_self_eq_true, beq_false, Bool.false_eq_true, BEq.rfl, Bool.beq_eq_decide_eq, decide_true, decide_false, reduceCtorEq, hbox, kloadA_at A0 hML, sz', ksz, t1, s1, kalloc_at, v1, kloadA_at A2 hML, t3, v3, kloadA_at X4 cl', t5, v5, kloadA_at G6 clg, kloadA_at W6 hWL, e6, kt, kloadA_at X6 cl', kloadA_at A6 hML, t7, e7, kloadA_at X7 cl', m8, kn8, kloadA_at G8 clg, kloadA_at W8 hWL, e8, m9, kloadA_at G9 clg, q9, kn9, kq9, kloadA_at A9 hML, t10, t11, v11, kloadA_at G12n cl11, kloadA_at W12 hWL, e12, kloadA_at G12 clg, q12, hH2, hH4, hH6, hH12, List.length_cons, List.length_nil, Nat.zero_add, Nat.reduceAdd]
  try simp only [S.laws_FnExactCarry.n33, S.laws_FnExactCarry.g33_0, S.laws_FnExactCarry.g33_1, S.laws_FnExactCarry.g33_2, Option.bind_some, kr_mk, kxt_tup, List.getElem?_cons_zero, List.getElem?_cons_succ, kcond_bool, cond_true, cond_false, kun_not, Bool.not_true, Bool.not_false, kpick_bool, tr_bool, kx_nrm, kx_ret, kb_nrm, kb_ret, kend_ret, finN_bool, klenS_str, beq_self_eq_true, beq_false, Bool.false_eq_true, BEq.rfl, Bool.beq_eq_decide_eq, decide_true, decide_false, reduceCtorEq, hbox, kloadA_at A0 hML, sz', ksz, t1, s1, kalloc_at, v1, kloadA_at A2 hML, t3, v3, kloadA_at X4 cl', t5, v5, kloadA_at G6 clg, kloadA_at W6 hWL, e6, kt, kloadA_at X6 cl', kloadA_at A6 hML, t7, e7, kloadA_at X7 cl', m8, kn8, kloadA_at G8 clg, kloadA_at W8 hWL, e8, m9, kloadA_at G9 clg, q9, kn9, kq9, kloadA_at A9 hML, t10, t11, v11, kloadA_at G12n cl11, kloadA_at W12 hWL, e12, kloadA_at G12 clg, q12, hH2, hH4, hH6, hH12, List.length_cons, List.length_nil, Nat.zero_add, Nat.reduceAdd]
  try simp only [S.laws_FnExactCarry.g33_3, S.laws_FnExactCarry.g33_4, S.laws_FnExactCarry.n32, S.laws_FnExactCarry.n12, Option.bind_some, kr_mk, kxt_tup, List.getElem?_cons_zero, List.getElem?_cons_succ, kcond_bool, cond_true, cond_false, kun_not, Bool.not_true, Bool.not_false, kpick_bool, tr_bool, kx_nrm, kx_ret, kb_nrm, kb_ret, kend_ret, finN_bool, klenS_str, beq_self_eq_true, beq_false, Bool.false_eq_true, BEq.rfl, Bool.beq_eq_decide_eq, decide_true, decide_false, reduceCtorEq, hbox, kloadA_at A0 hML, sz', ksz, t1, s1, kalloc_at, v1, kloadA_at A2 hML, t3, v3, kloadA_at X4 cl', t5, v5, kloadA_at G6 clg, kloadA_at W6 hWL, e6, kt, kloadA_at X6 cl', kloadA_at A6 hML, t7, e7, kloadA_at X7 cl', m8, kn8, kloadA_at G8 clg, kloadA_at W8 hWL, e8, m9, kloadA_at G9 clg, q9, kn9, kq9, kloadA_at A9 hML, t10, t11, v11, kloadA_at G12n cl11, kloadA_at W12 hWL, e12, kloadA_at G12 clg, q12, hH2, hH4, hH6, hH12, List.length_cons, List.length_nil, Nat.zero_add, Nat.reduceAdd]
  try simp only [S.laws_FnExactCarry.n13, S.laws_FnExactCarry.n14, S.laws_FnExactCarry.n15, S.laws_FnExactCarry.n16, Option.bind_some, kr_mk, kxt_tup, List.getElem?_cons_zero, List.getElem?_cons_succ, kcond_bool, cond_true, cond_false, kun_not, Bool.not_true, Bool.not_false, kpick_bool, tr_bool, kx_nrm, kx_ret, kb_nrm, kb_ret, kend_ret, finN_bool, klenS_str, beq_self_eq_true, beq_false, Bool.false_eq_true, BEq.rfl, Bool.beq_eq_decide_eq, decide_true, decide_false, reduceCtorEq, hbox, kloadA_at A0 hML, sz', ksz, t1, s1, kalloc_at, v1, kloadA_at A2 hML, t3, v3, kloadA_at X4 cl', t5, v5, kloadA_at G6 clg, kloadA_at W6 hWL, e6, kt, kloadA_at X6 cl', kloadA_at A6 hML, t7, e7, kloadA_at X7 cl', m8, kn8, kloadA_at G8 clg, kloadA_at W8 hWL, e8, m9, kloadA_at G9 clg, q9, kn9, kq9, kloadA_at A9 hML, t10, t11, v11, kloadA_at G12n cl11, kloadA_at W12 hWL, e12, kloadA_at G12 clg, q12, hH2, hH4, hH6, hH12, List.length_cons, List.length_nil, Nat.zero_add, Nat.reduceAdd]
  try simp only [S.laws_FnExactCarry.n17, S.laws_FnExactCarry.n18, S.laws_FnExactCarry.n19, S.laws_FnExactCarry.n21, Option.bind_some, kr_mk, kxt_tup, List.getElem?_cons_zero, List.getElem?_cons_succ, kcond_bool, cond_true, cond_false, kun_not, Bool.not_true, Bool.not_false, kpick_bool, tr_bool, kx_nrm, kx_ret, kb_nrm, kb_ret, kend_ret, finN_bool, klenS_str, beq_self_eq_true, beq_false, Bool.false_eq_true, BEq.rfl, Bool.beq_eq_decide_eq, decide_true, decide_false, reduceCtorEq, hbox, kloadA_at A0 hML, sz', ksz, t1, s1, kalloc_at, v1, kloadA_at A2 hML, t3, v3, kloadA_at X4 cl', t5, v5, kloadA_at G6 clg, kloadA_at W6 hWL, e6, kt, kloadA_at X6 cl', kloadA_at A6 hML, t7, e7, kloadA_at X7 cl', m8, kn8, kloadA_at G8 clg, kloadA_at W8 hWL, e8, m9, kloadA_at G9 clg, q9, kn9, kq9, kloadA_at A9 hML, t10, t11, v11, kloadA_at G12n cl11, kloadA_at W12 hWL, e12, kloadA_at G12 clg, q12, hH2, hH4, hH6, hH12, List.length_cons, List.length_nil, Nat.zero_add, Nat.reduceAdd]
  try simp only [S.laws_FnExactCarry.n23, S.laws_FnExactCarry.g23_0, S.laws_FnExactCarry.g23_1, S.laws_FnExactCarry.g23_2, Option.bind_some, kr_mk, kxt_tup, List.getElem?_cons_zero, List.getElem?_cons_succ, kcond_bool, cond_true, cond_false, kun_not, Bool.not_true, Bool.not_false, kpick_bool, tr_bool, kx_nrm, kx_ret, kb_nrm, kb_ret, kend_ret, finN_bool, klenS_str, beq_self_eq_true, beq_false, Bool.false_eq_true, BEq.rfl, Bool.beq_eq_decide_eq, decide_true, decide_false, reduceCtorEq, hbox, kloadA_at A0 hML, sz', ksz, t1, s1, kalloc_at, v1, kloadA_at A2 hML, t3, v3, kloadA_at X4 cl', t5, v5, kloadA_at G6 clg, kloadA_at W6 hWL, e6, kt, kloadA_at X6 cl', kloadA_at A6 hML, t7, e7, kloadA_at X7 cl', m8, kn8, kloadA_at G8 clg, kloadA_at W8 hWL, e8, m9, kloadA_at G9 clg, q9, kn9, kq9, kloadA_at A9 hML, t10, t11, v11, kloadA_at G12n cl11, kloadA_at W12 hWL, e12, kloadA_at G12 clg, q12, hH2, hH4, hH6, hH12, List.length_cons, List.length_nil, Nat.zero_add, Nat.reduceAdd]
  try simp only [S.laws_FnExactCarry.n22, S.laws_FnExactCarry.n20, Option.bind_some, kr_mk, kxt_tup, List.getElem?_cons_zero, List.getElem?_cons_succ, kcond_bool, cond_true, cond_false, kun_not, Bool.not_true, Bool.not_false, kpick_bool, tr_bool, kx_nrm, kx_ret, kb_nrm, kb_ret, kend_ret, finN_bool, klenS_str, beq_self_eq_true, beq_false, Bool.false_eq_true, BEq.rfl, Bool.beq_eq_decide_eq, decide_true, decide_false, reduceCtorEq, hbox, kloadA_at A0 hML, sz', ksz, t1, s1, kalloc_at, v1, kloadA_at A2 hML, t3, v3, kloadA_at X4 cl', t5, v5, kloadA_at G6 clg, kloadA_at W6 hWL, e6, kt, kloadA_at X6 cl', kloadA_at A6 hML, t7, e7, kloadA_at X7 cl', m8, kn8, kloadA_at G8 clg, kloadA_at W8 hWL, e8, m9, kloadA_at G9 clg, q9, kn9, kq9, kloadA_at A9 hML, t10, t11, v11, kloadA_at G12n cl11, kloadA_at W12 hWL, e12, kloadA_at G12 clg, q12, hH2, hH4, hH6, hH12, List.length_cons, List.length_nil, Nat.zero_add, Nat.reduceAdd]
end Go.Proofs.Ytopmnigfklgnkaa.G
