/- The law FnExactNewSession. -/
import Derived.Test.YtolhjndfplfjpaaTSess2
import Derived.Test.YtolhjndfplfjpaaSLFnExactNewSession
namespace Go.Proofs.Ytolhjndfplfjpaa.G
open Go.RowKit
set_option linter.unusedVariables false
set_option linter.unusedSimpArgs false
set_option maxRecDepth 100000
theorem FnExactNewSession_row : NN fn.laws_FnExactNewSession [] = some (.bool true) := by
  have okr := sessM_ok
  have sp := spec_NewSession_spec
  have im := impl_NewSession_spec
  obtain ⟨x, hx⟩ : ∃ x, sessM = x := ⟨_, rfl⟩
  rw [hx] at okr sp
  simp only [hx] at im
  have ec : NN fn.laws_eqSession [.agg (mSession true x), .agg (mSession true x)] = some (.bool true) := eqSession_self x okr
  have cl := cSession_le okr
  have bW : ∀ (H : Heap) (gs zs : List GV), bors H gs = some zs → bors H (.agg (mSession false x) :: gs) = some (.agg (mSession true x) :: zs) := fun H gs zs h => by
    rw [bors_cons, h]; simp
  have hWL : (mSession false x).length = 33 := rfl
  have hWc : (mSession false x).all GV.isCell = true := by simp
  obtain ⟨W, hW⟩ : ∃ W, mSession false x = W := ⟨_, rfl⟩
  rw [hW] at bW hWL hWc sp
  have im' := fun (H : Heap) => fresh_agg goodSession (f := fn.impl_NewSession) (args := []) (xs := []) (H := H) (x := x) rfl (im H.length)
  apply S.laws_FnExactNewSession.gives (k := 0)
  have s0 : kN NN fn.spec_NewSession [] [] = some (.agg W) := kN_at rfl sp
  have v1 : kstore 33 ([] ++ [zSess0]) (.ptr 0 0 33) (.agg W) = some ([] ++ [W]) := var_at (H := []) (z := zSess0) (c := W) (n := 33) rfl hWL hWc
  obtain ⟨H1, hH1⟩ : ∃ H1 : Heap, [] ++ [W] = H1 := ⟨_, rfl⟩
  have W1 : H1[0]? = some W := by rw [← hH1]; rfl
  have l1 : H1.length = 1 := by rw [← hH1]; rfl
  rw [hH1] at v1
  obtain ⟨g, Rg, H2, t2, r2, n2, b2, f2, l2⟩ := im' H1
  have W2 := f2.blk W1 no_nil
  have clg := goodSession.len r2
  have v2 := var_at (H := H2) (z := zSess0) (c := g) (n := 33) rfl clg (goodSession.cell r2)
  obtain ⟨H3, hH3⟩ : ∃ H3, H2 ++ [g] = H3 := ⟨_, rfl⟩
  have f3 : Fr [] H2 H3 := by rw [← hH3]; exact .app
  have l3 : H3.length = H2.length + 1 := by rw [← hH3]; simp
  have G3 : H3[H2.length]? = some g := by rw [← hH3]; simp
  rw [hH3] at v2
  have W3 := f3.blk W2 no_nil
  have r3 := goodSession.keep r2 f3 (fun _ _ => no_nil)
  have e3 : kN NN fn.laws_eqSession [.agg g, .agg W] H3 = some (.bool true) := kN_at (bors_agg goodSession (by omega) r3 (bW _ _ _ rfl)) ec
  obtain ⟨H4, m4, r4, f4⟩ := laws_markSession_spec H3 g x Rg 1 okr r3 n2 (by omega)
  have l4 := f4.1
  have W4 := f4.blk W3 (b2.no (by omega))
  have G4 := f4.blk G3 (b2.no (by omega))
  have hd := laws_heldSession_spec x 1 okr (by omega)
  have bi : ∀ H : Heap, bors H [.int .i64 ((1 : Nat) : Int)] = some [.int .i64 ((1 : Nat) : Int)] := fun _ => rfl
  have q4 : kN NN fn.laws_heldSession [.agg g, .int .i64 ((1 : Nat) : Int)] H4 = some (.int .i64 ((1 + cSession x : Nat) : Int)) := kN_at (bors_agg goodSession (by omega) r4 (bi _)) hd
  have p4 : ¬ ((((1 + cSession x : Nat) : Int)) < 0) := by omega
  obtain ⟨g5, R5, H5, t5, r5, n5, b5, f5, l5⟩ := im' H4
  have W5 := f5.blk W4 no_nil
  have G5 := f5.blk G4 no_nil
  have r5g := goodSession.keep r4 f5 (fun _ _ => no_nil)
  have cl5 := goodSession.len r5
  have v5 := var_at (H := H5) (z := zSess0) (c := g5) (n := 33) rfl cl5 (goodSession.cell r5)
  obtain ⟨H6, hH6⟩ : ∃ H6, H5 ++ [g5] = H6 := ⟨_, rfl⟩
  have f6 : Fr [] H5 H6 := by rw [← hH6]; exact .app
  have G6n : H6[H5.length]? = some g5 := by rw [← hH6]; simp
  rw [hH6] at v5
  have W6 := f6.blk W5 no_nil
  have G6 := f6.blk G5 no_nil
  have r6 := goodSession.keep r5 f6 (fun _ _ => no_nil)
  have r6g := goodSession.keep r5g f6 (fun _ _ => no_nil)
  have e6 : kN NN fn.laws_eqSession [.agg g5, .agg W] H6 = some (.bool true) := kN_at (bors_agg goodSession (by omega) r6 (bW _ _ _ rfl)) ec
  have q6 : kN NN fn.laws_heldSession [.agg g, .int .i64 ((1 : Nat) : Int)] H6 = some (.int .i64 ((1 + cSession x : Nat) : Int)) := kN_at (bors_agg goodSession (by omega) r6g (bi _)) hd
  simp only [show ((1 : Nat) : Int) = 1 from rfl] at m4 q4 q6
  have kn4 : kbin .lss (.int .i64 ((1 + cSession x : Nat) : Int)) (.int .i64 0) = some (.bool false) := by rw [kbin_lss, decide_eq_false p4]
  have kq : kbin .neq (.int .i64 ((1 + cSession x : Nat) : Int)) (.int .i64 ((1 + cSession x : Nat) : Int)) = some (.bool false) := by simp
  simp only [S.laws_FnExactNewSession.run, S.laws_FnExactNewSession.n0, S.laws_FnExactNewSession.n1, S.laws_FnExactNewSession.n2, Option.bind_some, kr_mk, kxt_tup, List.getElem?_cons_zero, List.getElem?_cons_succ, kcond_bool, cond_true, cond_false, kun_not, Bool.not_true, Bool.not_false, kpick_bool, tr_bool, tr_un, kx_nrm, kx_ret, kb_nrm, kb_ret, kend_ret, kend_nrm, finN_bool, beq_self_eq_true, beq_false, beq_true, Bool.false_eq_true, BEq.rfl, Bool.not_eq_true, reduceCtorEq, s0, kalloc_at, v1, t2, v2, kloadA_at G3 clg, kloadA_at W3 hWL, e3, m4, kloadA_at G4 clg, q4, kn4, kq, t5, v5, kloadA_at G6n cl5, kloadA_at W6 hWL, e6, kloadA_at G6 clg, q6, hH1, hH3, hH6, List.length_cons, List.length_nil, Nat.zero_add, Nat.reduceAdd]
  try simp only [S.laws_FnExactNewSession.n3, S.laws_FnExactNewSession.n4, Option.bind_some, kr_mk, kxt_tup, List.getElem?_cons_zero, List.getElem?_cons_succ, kcond_bool, cond_true, cond_false, kun_not, Bool.not_true, Bool.not_false, kpick_bool, tr_bool, tr_un, kx_nrm, kx_ret, kb_nrm, kb_ret, kend_ret, kend_nrm, finN_bool, beq_self_eq_true, beq_false, beq_true, Bool.false_eq_true, BEq.rfl, Bool.not_eq_true, reduceCtorEq, s0, kalloc_at, v1, t2, v2, kloadA_at G3 clg, kloadA_at W3 hWL, e3, m4, kloadA_at G4 clg, q4, kn4, kq, t5, v5, kloadA_at G6n cl5, kloadA_at W6 hWL, e6, kloadA_at G6 clg, q6, hH1, hH3, hH6, List.length_cons, List.length_nil, Nat.zero_add, Nat.reduceAdd]
end Go.Proofs.Ytolhjndfplfjpaa.G
