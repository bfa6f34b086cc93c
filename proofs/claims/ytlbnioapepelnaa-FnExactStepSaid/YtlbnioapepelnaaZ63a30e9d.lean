/- The law FnExactStep, for all data. From this machine to the statements: a law that answers true for all data answers true for all arguments. -/
import Derived.Test.YtlbnioapepelnaaZ16f32c74
import Derived.Test.YtlbnioapepelnaaZeb0e6002
import Derived.Test.YtlbnioapepelnaaZ31d8faa3
import Derived.ChangeOld
import Derived.OpenShut
namespace Go.Proofs.Ytlbnioapepelnaa.G
open Go.RowKit
set_option linter.unusedVariables false
set_option linter.unusedSimpArgs false
set_option maxRecDepth 100000
theorem bors_pl_Step {H : Heap} {g : GV} {gs xs : List GV} (hg : bor 9 H g = some (g, [])) (h : bors H gs = some xs) : bors H (g :: gs) = some (g :: xs) := by rw [bors_cons, hg, h]; rfl
theorem FnExactStep_row (a0 : (Int × List (Int) × Int × List (Int))) (i0 : (Lit.int .i64 a0.1).wf = true ∧ (inSl (fun x1 : Int => (Lit.int .i64 x1).wf = true) a0.2.1 ∧ ((Lit.int .i64 a0.2.2.1).wf = true ∧ inSl (fun x1 : Int => (Lit.int .i64 x1).wf = true) a0.2.2.2))) (a1 : Int) (i1 : (Lit.int .i64 a1).wf = true) : NN fn.laws_FnExactStep [(.agg [GV.int .i64 a0.1, fzl true 1 (fun x1 : Int => [GV.int .i64 x1]) a0.2.1, GV.int .i64 a0.2.2.1, fzl true 1 (fun x1 : Int => [GV.int .i64 x1]) a0.2.2.2]), (GV.int .i64 a1)] = some (.bool true) := by
  obtain ⟨e0_1, e0_2, e0_3, e0_4⟩ := a0
  try simp only at i0
  have sz0 := laws_szParser_spec e0_1 e0_2 e0_3 e0_4 1048576 i0 (by omega) (by omega)
  obtain ⟨a0, ha0⟩ : ∃ a : (Int × List (Int) × Int × List (Int)), (e0_1, e0_2, e0_3, e0_4) = a := ⟨_, rfl⟩
  have sz0 : NN fn.laws_szParser [.agg (mParser true (e0_1, e0_2, e0_3, e0_4)), .int .i64 1048576] = _ := sz0
  have bM0 : ∀ (H : Heap) (gs zs : List GV), bors H gs = some zs → bors H (.agg (mParser true (e0_1, e0_2, e0_3, e0_4)) :: gs) = some (.agg (mParser true (e0_1, e0_2, e0_3, e0_4)) :: zs) := fun H gs zs h => by
    rw [bors_cons, h]; simp
  show NN fn.laws_FnExactStep [.agg (mParser true (e0_1, e0_2, e0_3, e0_4)), .int .i64 a1] = some (.bool true)
  rw [ha0] at sz0 bM0 ⊢
  have hML0 : (mParser true a0).length = 4 := rfl
  obtain ⟨M0, hM0⟩ : ∃ M, mParser true a0 = M := ⟨_, rfl⟩
  rw [hM0] at sz0 bM0 hML0 ⊢
  apply S.laws_FnExactStep.gives (k := 0)
  obtain ⟨H0, hH0⟩ : ∃ H0 : Heap, [M0] = H0 := ⟨_, rfl⟩
  have hbox0 : ∀ {Q : Type} (K : GV → Heap → Option Q), kbox (.agg M0) [] K = K (.ptr 0 0 4) H0 := fun K => by rw [kbox_agg, hML0, ← hH0]; rfl
  have A0 : H0[0]? = some M0 := by rw [← hH0]; rfl
  have l0 : H0.length = 1 := by rw [← hH0]; rfl
  have sz' : kN NN fn.laws_szParser [.agg M0, .int .i64 1048576] H0 = _ := kN_at (bM0 _ _ _ (by simp)) sz0
  by_cases h : (1048576 : Int) < (zParser a0 : Int)
  · rw [if_pos h] at sz'
    simp [S.laws_FnExactStep.run, hbox0, kloadA_at A0 hML0, sz', -kN_eq]
  rw [if_neg h] at sz'
  have hz : zParser a0 ≤ 1048576 := by omega
  have hm0 : okParser a0 := okParser_of hz
  have h1 : ¬ ((1048576 : Int) - (zParser a0 : Int) < 0) := by omega
  have ksz : kbin .lss (.int .i64 (1048576 - (zParser a0 : Int))) (.int .i64 0) = some (.bool false) := by rw [kbin_lss, decide_eq_false h1]
  have to0 := fun H => fresh_agg goodParser (f := fn.laws_toParser) (args := [.agg M0]) (xs := [.agg M0]) (H := H) (x := a0) (bM0 _ _ _ (by simp)) (by rw [← hM0]; exact laws_toParser_spec a0 hm0 H.length)
  have cl0 := cParser_le hm0
  have okr := stepL_ok a0 hm0 a1
  have sp := spec_StepL a0 hm0 a1
  have im := impl_StepL a0 hm0 a1
  obtain ⟨w0, w1, hres⟩ : ∃ w0 w1, stepL a0 a1 = (w0, w1) := ⟨_, _, rfl⟩
  rw [hres] at okr sp
  simp only [hres] at im okr sp
  have ok0 : okParser w0 := okr.1
  have cw0 := cParser_le ok0
  have bW0 : ∀ (H : Heap) (gs zs : List GV), bors H gs = some zs → bors H (.agg (mParser false w0) :: gs) = some (.agg (mParser true w0) :: zs) := fun H gs zs h => by
    rw [bors_cons, h]; simp
  have hWL0 : (mParser false w0).length = 4 := rfl
  have hWc0 : (mParser false w0).all GV.isCell = true := by simp
  obtain ⟨W0, hW0⟩ : ∃ W, mParser false w0 = W := ⟨_, rfl⟩
  rw [hW0] at bW0 hWL0 hWc0 sp
  have esParser : ∀ x : (Int × List (Int) × Int × List (Int)), okParser x → NN fn.laws_eqParser [.agg (mParser true x), .agg (mParser true x)] = some (.bool true) := fun x hm => by
    obtain ⟨q_1, q_2, q_3, q_4⟩ := x
    have := laws_eqParser_spec q_1 q_1 q_2 q_2 q_3 q_3 q_4 q_4 hm
    rw [decide_eq_true rfl] at this
    exact this
  have ec0 := esParser w0 ok0
  have ok1 : okActionS w1 := okr.2
  have cw1 := cActionS_le ok1
  have bW1 : ∀ (H : Heap) (gs zs : List GV), bors H gs = some zs → bors H ((fzl false 5 (mAction false) w1) :: gs) = some ((fzl true 5 (mAction true) w1) :: zs) := fun H gs zs h => by
    rw [bors_cons, h]; simp
  obtain ⟨W1, hW1⟩ : ∃ W, (fzl false 5 (mAction false) w1) = W := ⟨_, rfl⟩
  rw [hW1] at bW1 sp
  have esActionS : ∀ x : List ((Int × Int × List (Int) × Int × List (Int))), okActionS x → NN fn.laws_eqActionS [(fzl true 5 (mAction true) x), (fzl true 5 (mAction true) x)] = some (.bool true) := fun x hm => by
    have := laws_eqActionS_spec x x hm
    rw [decide_eq_true rfl] at this
    exact this
  have ec1 := esActionS w1 ok1
  have ea0 := esParser a0 hm0
  obtain ⟨c1, R1, H1, t1, r1_, n1, b1, f1, l1⟩ := to0 H0
  have A0_1 := f1.blk A0 no_nil
  have s2 : kN NN fn.spec_Step [.agg c1, .int .i64 a1] H1 = some (.tup [.agg W0, W1]) := kN_at (bors_agg goodParser (by omega) r1_ (bors_pl_Step (by simp) (by simp))) sp
  have v3 := var_at (H := H1) (z := [(.int .i64 0), .nils, (.int .i64 0), .nils]) (c := W0) (n := 4) rfl hWL0 hWc0
  obtain ⟨H3, hH3⟩ : ∃ H', H1 ++ [W0] = H' := ⟨_, rfl⟩
  have f3 : Fr [] H1 H3 := by rw [← hH3]; exact .app
  have l3 : H3.length = H1.length + 1 := by rw [← hH3]; simp
  have BW0_3 : H3[H1.length]? = some W0 := by rw [← hH3]; simp
  rw [hH3] at v3
  have A0_3 := f3.blk A0_1 no_nil
  obtain ⟨c4, R4, H4, t4, r4_, n4, b4, f4, l4⟩ := to0 H3
  have A0_4 := f4.blk A0_3 no_nil
  have BW0_4 := f4.blk BW0_3 no_nil
  have xl0 := goodParser.len r4_
  have xc0 := goodParser.cell r4_
  have v5 := var_at (H := H4) (z := [(.int .i64 0), .nils, (.int .i64 0), .nils]) (c := c4) (n := 4) rfl xl0 xc0
  obtain ⟨H5, hH5⟩ : ∃ H', H4 ++ [c4] = H' := ⟨_, rfl⟩
  have f5 : Fr [] H4 H5 := by rw [← hH5]; exact .app
  have l5 : H5.length = H4.length + 1 := by rw [← hH5]; simp
  have BX0_5 : H5[H4.length]? = some c4 := by rw [← hH5]; simp
  rw [hH5] at v5
  have A0_5 := f5.blk A0_4 no_nil
  have BW0_5 := f5.blk BW0_4 no_nil
  have r4_5 := goodParser.keep r4_ f5 (fun _ _ => no_nil)
  obtain ⟨g6, u6, R6, S6, H6, t6, r6_, z6_, n6, nS6, ⟨m6_, b6, d6, p6, p6_⟩, f6, l6⟩ := fresh_pair goodParser goodActionS (f := fn.impl_Step) (args := [.agg c4, .int .i64 a1]) (xs := [.agg (mParser true a0), .int .i64 a1]) (H := H5) (x := w0) (y := w1) (bors_agg goodParser (by omega) r4_5 (bors_pl_Step (by simp) (by simp))) (im H5.length)
  have A0_6 := f6.blk A0_5 no_nil
  have BW0_6 := f6.blk BW0_5 no_nil
  have BX0_6 := f6.blk BX0_5 no_nil
  have r4_6 := goodParser.keep r4_5 f6 (fun _ _ => no_nil)
  have glG0 := goodParser.len r6_
  have gcG0 := goodParser.cell r6_
  have v7 := var_at (H := H6) (z := [(.int .i64 0), .nils, (.int .i64 0), .nils]) (c := g6) (n := 4) rfl glG0 gcG0
  obtain ⟨H7, hH7⟩ : ∃ H', H6 ++ [g6] = H' := ⟨_, rfl⟩
  have f7 : Fr [] H6 H7 := by rw [← hH7]; exact .app
  have l7 : H7.length = H6.length + 1 := by rw [← hH7]; simp
  have BG0_7 : H7[H6.length]? = some g6 := by rw [← hH7]; simp
  rw [hH7] at v7
  have A0_7 := f7.blk A0_6 no_nil
  have BW0_7 := f7.blk BW0_6 no_nil
  have BX0_7 := f7.blk BX0_6 no_nil
  have r4_7 := goodParser.keep r4_6 f7 (fun _ _ => no_nil)
  have r6_7 := goodParser.keep r6_ f7 (fun _ _ => no_nil)
  have z6_7 := goodActionS.keep z6_ f7 (fun _ _ => no_nil)
  have e8 : kN NN fn.laws_eqParser [.agg g6, .agg W0] H7 = some (.bool true) := kN_at (bors_agg goodParser (by omega) r6_7 (bW0 _ _ _ (by simp))) ec0
  have e9 : kN NN fn.laws_eqActionS [u6, W1] H7 = some (.bool true) := kN_at (bors_one goodAction (by omega) z6_7 (bW1 _ _ _ (by simp))) ec1
  obtain ⟨c10, R10, H10, t10, r10_, n10, b10, f10, l10⟩ := to0 H7
  have A0_10 := f10.blk A0_7 no_nil
  have BW0_10 := f10.blk BW0_7 no_nil
  have BX0_10 := f10.blk BX0_7 no_nil
  have BG0_10 := f10.blk BG0_7 no_nil
  have r4_10 := goodParser.keep r4_7 f10 (fun _ _ => no_nil)
  have r6_10 := goodParser.keep r6_7 f10 (fun _ _ => no_nil)
  have z6_10 := goodActionS.keep z6_7 f10 (fun _ _ => no_nil)
  have e11 : kN NN fn.laws_eqParser [.agg c4, .agg c10] H10 = some (.bool true) := kN_at (bors_agg goodParser (by omega) r4_10 (bors_agg goodParser (by omega) r10_ (by simp))) ea0
  obtain ⟨H12, m12, rr12, f12⟩ := laws_markParser_spec H10 c4 a0 R4 (1) hm0 r4_10 n4 (by omega)
  have l12 := f12.1
  simp only [show ((1 : Nat) : Int) = 1 from rfl] at m12
  have A0_12 := f12.blk A0_10 (b4.no (by omega))
  have BW0_12 := f12.blk BW0_10 (b4.no (by omega))
  have BX0_12 := f12.blk BX0_10 (b4.no (by omega))
  have BG0_12 := f12.blk BG0_10 (b4.no (by omega))
  have r6_12 := goodParser.keep r6_10 f12 (b6.apart b4 (by omega))
  have z6_12 := goodActionS.keep z6_10 f12 (d6.apart b4 (by omega))
  have kn13 : kbin .lss (.int .i64 ((1 + cParser a0 : Nat) : Int)) (.int .i64 0) = some (.bool false) := by rw [kbin_lss, decide_eq_false (by omega)]
  have e14 : kN NN fn.laws_eqParser [.agg g6, .agg W0] H12 = some (.bool true) := kN_at (bors_agg goodParser (by omega) r6_12 (bW0 _ _ _ (by simp))) ec0
  have e15 : kN NN fn.laws_eqActionS [u6, W1] H12 = some (.bool true) := kN_at (bors_one goodAction (by omega) z6_12 (bW1 _ _ _ (by simp))) ec1
  obtain ⟨H16, m16, rr16, f16⟩ := laws_markParser_spec H12 g6 w0 R6 (1) ok0 r6_12 n6 (by omega)
  have l16 := f16.1
  simp only [show ((1 : Nat) : Int) = 1 from rfl] at m16
  have A0_16 := f16.blk A0_12 (b6.no (by omega))
  have BW0_16 := f16.blk BW0_12 (b6.no (by omega))
  have BX0_16 := f16.blk BX0_12 (b6.no (by omega))
  have BG0_16 := f16.blk BG0_12 (b6.no (by omega))
  have z6_16 := goodActionS.keep z6_12 f16 (d6.apart b6 (by omega))
  obtain ⟨H17, m17, rr17, f17⟩ := laws_markActionS_spec H16 u6 w1 S6 (1 + cParser w0) ok1 z6_16 nS6 (by omega)
  have l17 := f17.1
  have A0_17 := f17.blk A0_16 (d6.no (by omega))
  have BW0_17 := f17.blk BW0_16 (d6.no (by omega))
  have BX0_17 := f17.blk BX0_16 (d6.no (by omega))
  have BG0_17 := f17.blk BG0_16 (d6.no (by omega))
  have r6_17 := goodParser.keep rr16 f17 (b6.apart d6 (by omega))
  have hd18 := laws_heldParser_spec w0 (1) ok0 (by omega)
  have q18 : kN NN fn.laws_heldParser [.agg g6, .int .i64 ((1 : Nat) : Int)] H17 = some (.int .i64 ((1 + cParser w0 : Nat) : Int)) := kN_at (bors_agg goodParser (by omega) r6_17 (bors_pl_Step (by simp) (by simp))) hd18
  simp only [show ((1 : Nat) : Int) = 1 from rfl] at q18
  have kn18 : kbin .lss (.int .i64 ((1 + cParser w0 : Nat) : Int)) (.int .i64 0) = some (.bool false) := by rw [kbin_lss, decide_eq_false (by omega)]
  have hd19 := laws_heldActionS_spec w1 (1 + cParser w0) ok1 (by omega)
  have q19 : kN NN fn.laws_heldActionS [u6, .int .i64 ((1 + cParser w0 : Nat) : Int)] H17 = some (.int .i64 ((1 + cParser w0 + cActionS w1 : Nat) : Int)) := kN_at (bors_one goodAction (by omega) rr17 (bors_pl_Step (by simp) (by simp))) hd19
  have kn19 : kbin .lss (.int .i64 ((1 + cParser w0 + cActionS w1 : Nat) : Int)) (.int .i64 0) = some (.bool false) := by rw [kbin_lss, decide_eq_false (by omega)]
  have kq : kbin .neq (.int .i64 ((1 + cParser w0 + cActionS w1 : Nat) : Int)) (.int .i64 ((1 + cParser w0 + cActionS w1 : Nat) : Int)) = some (.bool false) := by simp
  obtain ⟨c20, R20, H20, t20, r20_, n20, b20, f20, l20⟩ := to0 H17
  have A0_20 := f20.blk A0_17 no_nil
  have BW0_20 := f20.blk BW0_17 no_nil
  have BX0_20 := f20.blk BX0_17 no_nil
  have BG0_20 := f20.blk BG0_17 no_nil
  have r6_20 := goodParser.keep r6_17 f20 (fun _ _ => no_nil)
  have z6_20 := goodActionS.keep rr17 f20 (fun _ _ => no_nil)
  obtain ⟨g21, u21, R21, S21, H21, t21, r21_, z21_, n21, nS21, ⟨m21_, b21, d21, p21, p21_⟩, f21, l21⟩ := fresh_pair goodParser goodActionS (f := fn.impl_Step) (args := [.agg c20, .int .i64 a1]) (xs := [.agg (mParser true a0), .int .i64 a1]) (H := H20) (x := w0) (y := w1) (bors_agg goodParser (by omega) r20_ (bors_pl_Step (by simp) (by simp))) (im H20.length)
  have A0_21 := f21.blk A0_20 no_nil
  have BW0_21 := f21.blk BW0_20 no_nil
  have BX0_21 := f21.blk BX0_20 no_nil
  have BG0_21 := f21.blk BG0_20 no_nil
  have r6_21 := goodParser.keep r6_20 f21 (fun _ _ => no_nil)
  have z6_21 := goodActionS.keep z6_20 f21 (fun _ _ => no_nil)
  have r20_21 := goodParser.keep r20_ f21 (fun _ _ => no_nil)
  have glY0 := goodParser.len r21_
  have gcY0 := goodParser.cell r21_
  have v22 := var_at (H := H21) (z := [(.int .i64 0), .nils, (.int .i64 0), .nils]) (c := g21) (n := 4) rfl glY0 gcY0
  obtain ⟨H22, hH22⟩ : ∃ H', H21 ++ [g21] = H' := ⟨_, rfl⟩
  have f22 : Fr [] H21 H22 := by rw [← hH22]; exact .app
  have l22 : H22.length = H21.length + 1 := by rw [← hH22]; simp
  have BY0_22 : H22[H21.length]? = some g21 := by rw [← hH22]; simp
  rw [hH22] at v22
  have A0_22 := f22.blk A0_21 no_nil
  have BW0_22 := f22.blk BW0_21 no_nil
  have BX0_22 := f22.blk BX0_21 no_nil
  have BG0_22 := f22.blk BG0_21 no_nil
  have r6_22 := goodParser.keep r6_21 f22 (fun _ _ => no_nil)
  have z6_22 := goodActionS.keep z6_21 f22 (fun _ _ => no_nil)
  have r20_22 := goodParser.keep r20_21 f22 (fun _ _ => no_nil)
  have r21_22 := goodParser.keep r21_ f22 (fun _ _ => no_nil)
  have z21_22 := goodActionS.keep z21_ f22 (fun _ _ => no_nil)
  have e23 : kN NN fn.laws_eqParser [.agg g21, .agg W0] H22 = some (.bool true) := kN_at (bors_agg goodParser (by omega) r21_22 (bW0 _ _ _ (by simp))) ec0
  have e24 : kN NN fn.laws_eqActionS [u21, W1] H22 = some (.bool true) := kN_at (bors_one goodAction (by omega) z21_22 (bW1 _ _ _ (by simp))) ec1
  have hd25 := laws_heldParser_spec w0 (1) ok0 (by omega)
  have q25 : kN NN fn.laws_heldParser [.agg g6, .int .i64 ((1 : Nat) : Int)] H22 = some (.int .i64 ((1 + cParser w0 : Nat) : Int)) := kN_at (bors_agg goodParser (by omega) r6_22 (bors_pl_Step (by simp) (by simp))) hd25
  simp only [show ((1 : Nat) : Int) = 1 from rfl] at q25
  have kn25 : kbin .lss (.int .i64 ((1 + cParser w0 : Nat) : Int)) (.int .i64 0) = some (.bool false) := by rw [kbin_lss, decide_eq_false (by omega)]
  have hd26 := laws_heldActionS_spec w1 (1 + cParser w0) ok1 (by omega)
  have q26 : kN NN fn.laws_heldActionS [u6, .int .i64 ((1 + cParser w0 : Nat) : Int)] H22 = some (.int .i64 ((1 + cParser w0 + cActionS w1 : Nat) : Int)) := kN_at (bors_one goodAction (by omega) z6_22 (bors_pl_Step (by simp) (by simp))) hd26
  have kn26 : kbin .lss (.int .i64 ((1 + cParser w0 + cActionS w1 : Nat) : Int)) (.int .i64 0) = some (.bool false) := by rw [kbin_lss, decide_eq_false (by omega)]
  simp only [S.laws_FnExactStep.run, S.laws_FnExactStep.n0, S.laws_FnExactStep.n1, S.laws_FnExactStep.n2, Option.bind_some, kr_mk, kxt_tup, List.getElem?_cons_zero, List.getElem?_cons_succ, kcond_bool, cond_true, cond_false, kun_not, Bool.not_true, Bool.not_false, kpick_bool, tr_bool, tr_un, kx_nrm, kx_ret, kb_nrm, kb_ret, kend_ret, kend_nrm, finN_bool, klenS_str, beq_self_eq_true, beq_false, Bool.false_eq_true, BEq.rfl, Bool.beq_eq_decide_eq, decide_true, decide_false, reduceCtorEq, kalloc_at, hbox0, kloadA_at A0 hML0, sz', ksz, t1, s2, v3, hH3, kloadA_at A0_3 hML0, t4, v5, hH5, kloadA_at BX0_5 xl0, t6, v7, hH7, kloadA_at BG0_7 glG0, kloadA_at BW0_7 hWL0, e8, e9, kloadA_at BX0_7 xl0, kloadA_at A0_7 hML0, t10, e11, kloadA_at BX0_10 xl0, m12, kn13, kloadA_at BG0_12 glG0, kloadA_at BW0_12 hWL0, e14, e15, m16, m17, kloadA_at BG0_17 glG0, q18, kn18, q19, kn19, kq, kloadA_at A0_17 hML0, t20, t21, v22, hH22, kloadA_at BY0_22 glY0, kloadA_at BW0_22 hWL0, e23, e24, kloadA_at BG0_22 glG0, q25, kn25, q26, kn26, List.length_cons, List.length_nil, Nat.zero_add, Nat.reduceAdd]
  try simp only [S.laws_FnExactStep.n3, S.laws_FnExactStep.n4, S.laws_FnExactStep.n5, S.laws_FnExactStep.n6, Option.bind_some, kr_mk, kxt_tup, List.getElem?_cons_zero, List.getElem?_cons_succ, kcond_bool, cond_true, cond_false, kun_not, Bool.not_true, Bool.not_false, kpick_bool, tr_bool, tr_un, kx_nrm, kx_ret, kb_nrm, kb_ret, kend_ret, kend_nrm, finN_bool, klenS_str, beq_self_eq_true, beq_false, Bool.false_eq_true, BEq.rfl, Bool.beq_eq_decide_eq, decide_true, decide_false, reduceCtorEq, kalloc_at, hbox0, kloadA_at A0 hML0, sz', ksz, t1, s2, v3, hH3, kloadA_at A0_3 hML0, t4, v5, hH5, kloadA_at BX0_5 xl0, t6, v7, hH7, kloadA_at BG0_7 glG0, kloadA_at BW0_7 hWL0, e8, e9, kloadA_at BX0_7 xl0, kloadA_at A0_7 hML0, t10, e11, kloadA_at BX0_10 xl0, m12, kn13, kloadA_at BG0_12 glG0, kloadA_at BW0_12 hWL0, e14, e15, m16, m17, kloadA_at BG0_17 glG0, q18, kn18, q19, kn19, kq, kloadA_at A0_17 hML0, t20, t21, v22, hH22, kloadA_at BY0_22 glY0, kloadA_at BW0_22 hWL0, e23, e24, kloadA_at BG0_22 glG0, q25, kn25, q26, kn26, List.length_cons, List.length_nil, Nat.zero_add, Nat.reduceAdd]
  try simp only [S.laws_FnExactStep.n7, S.laws_FnExactStep.n43, S.laws_FnExactStep.n45, S.laws_FnExactStep.g45_0, Option.bind_some, kr_mk, kxt_tup, List.getElem?_cons_zero, List.getElem?_cons_succ, kcond_bool, cond_true, cond_false, kun_not, Bool.not_true, Bool.not_false, kpick_bool, tr_bool, tr_un, kx_nrm, kx_ret, kb_nrm, kb_ret, kend_ret, kend_nrm, finN_bool, klenS_str, beq_self_eq_true, beq_false, Bool.false_eq_true, BEq.rfl, Bool.beq_eq_decide_eq, decide_true, decide_false, reduceCtorEq, kalloc_at, hbox0, kloadA_at A0 hML0, sz', ksz, t1, s2, v3, hH3, kloadA_at A0_3 hML0, t4, v5, hH5, kloadA_at BX0_5 xl0, t6, v7, hH7, kloadA_at BG0_7 glG0, kloadA_at BW0_7 hWL0, e8, e9, kloadA_at BX0_7 xl0, kloadA_at A0_7 hML0, t10, e11, kloadA_at BX0_10 xl0, m12, kn13, kloadA_at BG0_12 glG0, kloadA_at BW0_12 hWL0, e14, e15, m16, m17, kloadA_at BG0_17 glG0, q18, kn18, q19, kn19, kq, kloadA_at A0_17 hML0, t20, t21, v22, hH22, kloadA_at BY0_22 glY0, kloadA_at BW0_22 hWL0, e23, e24, kloadA_at BG0_22 glG0, q25, kn25, q26, kn26, List.length_cons, List.length_nil, Nat.zero_add, Nat.reduceAdd]
  try simp only [S.laws_FnExactStep.g45_1, S.laws_FnExactStep.g45_2, S.laws_FnExactStep.n44, S.laws_FnExactStep.n8, Option.bind_some, kr_mk, kxt_tup, List.getElem?_cons_zero, List.getElem?_cons_succ, kcond_bool, cond_true, cond_false, kun_not, Bool.not_true, Bool.not_false, kpick_bool, tr_bool, tr_un, kx_nrm, kx_ret, kb_nrm, kb_ret, kend_ret, kend_nrm, finN_bool, klenS_str, beq_self_eq_true, beq_false, Bool.false_eq_true, BEq.rfl, Bool.beq_eq_decide_eq, decide_true, decide_false, reduceCtorEq, kalloc_at, hbox0, kloadA_at A0 hML0, sz', ksz, t1, s2, v3, hH3, kloadA_at A0_3 hML0, t4, v5, hH5, kloadA_at BX0_5 xl0, t6, v7, hH7, kloadA_at BG0_7 glG0, kloadA_at BW0_7 hWL0, e8, e9, kloadA_at BX0_7 xl0, kloadA_at A0_7 hML0, t10, e11, kloadA_at BX0_10 xl0, m12, kn13, kloadA_at BG0_12 glG0, kloadA_at BW0_12 hWL0, e14, e15, m16, m17, kloadA_at BG0_17 glG0, q18, kn18, q19, kn19, kq, kloadA_at A0_17 hML0, t20, t21, v22, hH22, kloadA_at BY0_22 glY0, kloadA_at BW0_22 hWL0, e23, e24, kloadA_at BG0_22 glG0, q25, kn25, q26, kn26, List.length_cons, List.length_nil, Nat.zero_add, Nat.reduceAdd]
  try simp only [S.laws_FnExactStep.n9, S.laws_FnExactStep.n10, S.laws_FnExactStep.n11, S.laws_FnExactStep.n37, Option.bind_some, kr_mk, kxt_tup, List.getElem?_cons_zero, List.getElem?_cons_succ, kcond_bool, cond_true, cond_false, kun_not, Bool.not_true, Bool.not_false, kpick_bool, tr_bool, tr_un, kx_nrm, kx_ret, kb_nrm, kb_ret, kend_ret, kend_nrm, finN_bool, klenS_str, beq_self_eq_true, beq_false, Bool.false_eq_true, BEq.rfl, Bool.beq_eq_decide_eq, decide_true, decide_false, reduceCtorEq, kalloc_at, hbox0, kloadA_at A0 hML0, sz', ksz, t1, s2, v3, hH3, kloadA_at A0_3 hML0, t4, v5, hH5, kloadA_at BX0_5 xl0, t6, v7, hH7, kloadA_at BG0_7 glG0, kloadA_at BW0_7 hWL0, e8, e9, kloadA_at BX0_7 xl0, kloadA_at A0_7 hML0, t10, e11, kloadA_at BX0_10 xl0, m12, kn13, kloadA_at BG0_12 glG0, kloadA_at BW0_12 hWL0, e14, e15, m16, m17, kloadA_at BG0_17 glG0, q18, kn18, q19, kn19, kq, kloadA_at A0_17 hML0, t20, t21, v22, hH22, kloadA_at BY0_22 glY0, kloadA_at BW0_22 hWL0, e23, e24, kloadA_at BG0_22 glG0, q25, kn25, q26, kn26, List.length_cons, List.length_nil, Nat.zero_add, Nat.reduceAdd]
  try simp only [S.laws_FnExactStep.n39, S.laws_FnExactStep.g39_0, S.laws_FnExactStep.g39_1, S.laws_FnExactStep.g39_2, Option.bind_some, kr_mk, kxt_tup, List.getElem?_cons_zero, List.getElem?_cons_succ, kcond_bool, cond_true, cond_false, kun_not, Bool.not_true, Bool.not_false, kpick_bool, tr_bool, tr_un, kx_nrm, kx_ret, kb_nrm, kb_ret, kend_ret, kend_nrm, finN_bool, klenS_str, beq_self_eq_true, beq_false, Bool.false_eq_true, BEq.rfl, Bool.beq_eq_decide_eq, decide_true, decide_false, reduceCtorEq, kalloc_at, hbox0, kloadA_at A0 hML0, sz', ksz, t1, s2, v3, hH3, kloadA_at A0_3 hML0, t4, v5, hH5, kloadA_at BX0_5 xl0, t6, v7, hH7, kloadA_at BG0_7 glG0, kloadA_at BW0_7 hWL0, e8, e9, kloadA_at BX0_7 xl0, kloadA_at A0_7 hML0, t10, e11, kloadA_at BX0_10 xl0, m12, kn13, kloadA_at BG0_12 glG0, kloadA_at BW0_12 hWL0, e14, e15, m16, m17, kloadA_at BG0_17 glG0, q18, kn18, q19, kn19, kq, kloadA_at A0_17 hML0, t20, t21, v22, hH22, kloadA_at BY0_22 glY0, kloadA_at BW0_22 hWL0, e23, e24, kloadA_at BG0_22 glG0, q25, kn25, q26, kn26, List.length_cons, List.length_nil, Nat.zero_add, Nat.reduceAdd]
  try simp only [S.laws_FnExactStep.g39_3, S.laws_FnExactStep.g39_4, S.laws_FnExactStep.n38, S.laws_FnExactStep.n12, Option.bind_some, kr_mk, kxt_tup, List.getElem?_cons_zero, List.getElem?_cons_succ, kcond_bool, cond_true, cond_false, kun_not, Bool.not_true, Bool.not_false, kpick_bool, tr_bool, tr_un, kx_nrm, kx_ret, kb_nrm, kb_ret, kend_ret, kend_nrm, finN_bool, klenS_str, beq_self_eq_true, beq_false, Bool.false_eq_true, BEq.rfl, Bool.beq_eq_decide_eq, decide_true, decide_false, reduceCtorEq, kalloc_at, hbox0, kloadA_at A0 hML0, sz', ksz, t1, s2, v3, hH3, kloadA_at A0_3 hML0, t4, v5, hH5, kloadA_at BX0_5 xl0, t6, v7, hH7, kloadA_at BG0_7 glG0, kloadA_at BW0_7 hWL0, e8, e9, kloadA_at BX0_7 xl0, kloadA_at A0_7 hML0, t10, e11, kloadA_at BX0_10 xl0, m12, kn13, kloadA_at BG0_12 glG0, kloadA_at BW0_12 hWL0, e14, e15, m16, m17, kloadA_at BG0_17 glG0, q18, kn18, q19, kn19, kq, kloadA_at A0_17 hML0, t20, t21, v22, hH22, kloadA_at BY0_22 glY0, kloadA_at BW0_22 hWL0, e23, e24, kloadA_at BG0_22 glG0, q25, kn25, q26, kn26, List.length_cons, List.length_nil, Nat.zero_add, Nat.reduceAdd]
  try simp only [S.laws_FnExactStep.n13, S.laws_FnExactStep.n14, S.laws_FnExactStep.n15, S.laws_FnExactStep.n16, Option.bind_some, kr_mk, kxt_tup, List.getElem?_cons_zero, List.getElem?_cons_succ, kcond_bool, cond_true, cond_false, kun_not, Bool.not_true, Bool.not_false, kpick_bool, tr_bool, tr_un, kx_nrm, kx_ret, kb_nrm, kb_ret, kend_ret, kend_nrm, finN_bool, klenS_str, beq_self_eq_true, beq_false, Bool.false_eq_true, BEq.rfl, Bool.beq_eq_decide_eq, decide_true, decide_false, reduceCtorEq, kalloc_at, hbox0, kloadA_at A0 hML0, sz', ksz, t1, s2, v3, hH3, kloadA_at A0_3 hML0, t4, v5, hH5, kloadA_at BX0_5 xl0, t6, v7, hH7, kloadA_at BG0_7 glG0, kloadA_at BW0_7 hWL0, e8, e9, kloadA_at BX0_7 xl0, kloadA_at A0_7 hML0, t10, e11, kloadA_at BX0_10 xl0, m12, kn13, kloadA_at BG0_12 glG0, kloadA_at BW0_12 hWL0, e14, e15, m16, m17, kloadA_at BG0_17 glG0, q18, kn18, q19, kn19, kq, kloadA_at A0_17 hML0, t20, t21, v22, hH22, kloadA_at BY0_22 glY0, kloadA_at BW0_22 hWL0, e23, e24, kloadA_at BG0_22 glG0, q25, kn25, q26, kn26, List.length_cons, List.length_nil, Nat.zero_add, Nat.reduceAdd]
  try simp only [S.laws_FnExactStep.n17, S.laws_FnExactStep.n18, S.laws_FnExactStep.n19, S.laws_FnExactStep.n20, Option.bind_some, kr_mk, kxt_tup, List.getElem?_cons_zero, List.getElem?_cons_succ, kcond_bool, cond_true, cond_false, kun_not, Bool.not_true, Bool.not_false, kpick_bool, tr_bool, tr_un, kx_nrm, kx_ret, kb_nrm, kb_ret, kend_ret, kend_nrm, finN_bool, klenS_str, beq_self_eq_true, beq_false, Bool.false_eq_true, BEq.rfl, Bool.beq_eq_decide_eq, decide_true, decide_false, reduceCtorEq, kalloc_at, hbox0, kloadA_at A0 hML0, sz', ksz, t1, s2, v3, hH3, kloadA_at A0_3 hML0, t4, v5, hH5, kloadA_at BX0_5 xl0, t6, v7, hH7, kloadA_at BG0_7 glG0, kloadA_at BW0_7 hWL0, e8, e9, kloadA_at BX0_7 xl0, kloadA_at A0_7 hML0, t10, e11, kloadA_at BX0_10 xl0, m12, kn13, kloadA_at BG0_12 glG0, kloadA_at BW0_12 hWL0, e14, e15, m16, m17, kloadA_at BG0_17 glG0, q18, kn18, q19, kn19, kq, kloadA_at A0_17 hML0, t20, t21, v22, hH22, kloadA_at BY0_22 glY0, kloadA_at BW0_22 hWL0, e23, e24, kloadA_at BG0_22 glG0, q25, kn25, q26, kn26, List.length_cons, List.length_nil, Nat.zero_add, Nat.reduceAdd]
  try simp only [S.laws_FnExactStep.n21, S.laws_FnExactStep.n22, S.laws_FnExactStep.n24, S.laws_FnExactStep.n26, Option.bind_some, kr_mk, kxt_tup, List.getElem?_cons_zero, List.getElem?_cons_succ, kcond_bool, cond_true, cond_false, kun_not, Bool.not_true, Bool.not_false, kpick_bool, tr_bool, tr_un, kx_nrm, kx_ret, kb_nrm, kb_ret, kend_ret, kend_nrm, finN_bool, klenS_str, beq_self_eq_true, beq_false, Bool.false_eq_true, BEq.rfl, Bool.beq_eq_decide_eq, decide_true, decide_false, reduceCtorEq, kalloc_at, hbox0, kloadA_at A0 hML0, sz', ksz, t1, s2, v3, hH3, kloadA_at A0_3 hML0, t4, v5, hH5, kloadA_at BX0_5 xl0, t6, v7, hH7, kloadA_at BG0_7 glG0, kloadA_at BW0_7 hWL0, e8, e9, kloadA_at BX0_7 xl0, kloadA_at A0_7 hML0, t10, e11, kloadA_at BX0_10 xl0, m12, kn13, kloadA_at BG0_12 glG0, kloadA_at BW0_12 hWL0, e14, e15, m16, m17, kloadA_at BG0_17 glG0, q18, kn18, q19, kn19, kq, kloadA_at A0_17 hML0, t20, t21, v22, hH22, kloadA_at BY0_22 glY0, kloadA_at BW0_22 hWL0, e23, e24, kloadA_at BG0_22 glG0, q25, kn25, q26, kn26, List.length_cons, List.length_nil, Nat.zero_add, Nat.reduceAdd]
  try simp only [S.laws_FnExactStep.g26_0, S.laws_FnExactStep.g26_1, S.laws_FnExactStep.g26_2, S.laws_FnExactStep.n25, Option.bind_some, kr_mk, kxt_tup, List.getElem?_cons_zero, List.getElem?_cons_succ, kcond_bool, cond_true, cond_false, kun_not, Bool.not_true, Bool.not_false, kpick_bool, tr_bool, tr_un, kx_nrm, kx_ret, kb_nrm, kb_ret, kend_ret, kend_nrm, finN_bool, klenS_str, beq_self_eq_true, beq_false, Bool.false_eq_true, BEq.rfl, Bool.beq_eq_decide_eq, decide_true, decide_false, reduceCtorEq, kalloc_at, hbox0, kloadA_at A0 hML0, sz', ksz, t1, s2, v3, hH3, kloadA_at A0_3 hML0, t4, v5, hH5, kloadA_at BX0_5 xl0, t6, v7, hH7, kloadA_at BG0_7 glG0, kloadA_at BW0_7 hWL0, e8, e9, kloadA_at BX0_7 xl0, kloadA_at A0_7 hML0, t10, e11, kloadA_at BX0_10 xl0, m12, kn13, kloadA_at BG0_12 glG0, kloadA_at BW0_12 hWL0, e14, e15, m16, m17, kloadA_at BG0_17 glG0, q18, kn18, q19, kn19, kq, kloadA_at A0_17 hML0, t20, t21, v22, hH22, kloadA_at BY0_22 glY0, kloadA_at BW0_22 hWL0, e23, e24, kloadA_at BG0_22 glG0, q25, kn25, q26, kn26, List.length_cons, List.length_nil, Nat.zero_add, Nat.reduceAdd]
  try simp only [S.laws_FnExactStep.n23, Option.bind_some, kr_mk, kxt_tup, List.getElem?_cons_zero, List.getElem?_cons_succ, kcond_bool, cond_true, cond_false, kun_not, Bool.not_true, Bool.not_false, kpick_bool, tr_bool, tr_un, kx_nrm, kx_ret, kb_nrm, kb_ret, kend_ret, kend_nrm, finN_bool, klenS_str, beq_self_eq_true, beq_false, Bool.false_eq_true, BEq.rfl, Bool.beq_eq_decide_eq, decide_true, decide_false, reduceCtorEq, kalloc_at, hbox0, kloadA_at A0 hML0, sz', ksz, t1, s2, v3, hH3, kloadA_at A0_3 hML0, t4, v5, hH5, kloadA_at BX0_5 xl0, t6, v7, hH7, kloadA_at BG0_7 glG0, kloadA_at BW0_7 hWL0, e8, e9, kloadA_at BX0_7 xl0, kloadA_at A0_7 hML0, t10, e11, kloadA_at BX0_10 xl0, m12, kn13, kloadA_at BG0_12 glG0, kloadA_at BW0_12 hWL0, e14, e15, m16, m17, kloadA_at BG0_17 glG0, q18, kn18, q19, kn19, kq, kloadA_at A0_17 hML0, t20, t21, v22, hH22, kloadA_at BY0_22 glY0, kloadA_at BW0_22 hWL0, e23, e24, kloadA_at BG0_22 glG0, q25, kn25, q26, kn26, List.length_cons, List.length_nil, Nat.zero_add, Nat.reduceAdd]
end Go.Proofs.Ytlbnioapepelnaa.G

namespace Go.Proofs.Ytlbnioapepelnaa.G
open Go.RowKit Go.ChangeShapes Go.WideShapes Go.ChangeAt
set_option linter.unusedVariables false

theorem frz_true {d : Nat} {h : Heap} {v : GV} {r : List Nat} (e : frz d h v = some (.bool true, r)) : v = .bool true := by
  cases d with
  | zero => cases e
  | succ d =>
    cases v with
    | bool b => cases e; rfl
    | sl i off len cap es =>
      simp only [frz, Option.bind_eq_bind, Option.bind_eq_some_iff] at e
      obtain ⟨cs, _, xs, _, e⟩ := e
      split at e
      · cases len <;> cases e
      · cases e
    | fz t n es cells => cases n <;> cases t <;> cases e
    | agg cs => simp only [frz, Option.bind_eq_bind, Option.bind_eq_some_iff] at e; obtain ⟨xs, _, e⟩ := e; cases e
    | tup cs => simp only [frz, Option.bind_eq_bind, Option.bind_eq_some_iff] at e; obtain ⟨xs, _, e⟩ := e; cases e
    | _ => cases e

theorem law_N {P : Program} {C : Cfg} (hM : P.follows .mixedOrders = true) (hN : NameOk P) (hX : XSound P C) {f : FuncId} {args : List GV} {us : List Value} {W : World} (hx : C.ext f = none) (e : nω P C f args = some (.bool true))
    (hgl : GL W (fun c => c < W.heap.size)) (hv : VRs W E0 (fun _ => False) args (fun c => c < W.heap.size) us) : Calls P f us.toArray W fun e w' => e = .returned (.bool true) ∧ Below W.heap.size W w' := by
  unfold nω at e
  simp only [hx] at e
  obtain ⟨⟨v, h'⟩, h1, h2⟩ := Option.bind_eq_some_iff.1 e
  obtain ⟨⟨v', r⟩, h3, h4⟩ := Option.map_eq_some_iff.1 h2
  simp only at h4 h3
  subst h4
  have := frz_true h3
  subst this
  obtain ⟨k, lg, h5⟩ := kω_some.1 h1
  exact law_calls hM hN hX (k := k) (by rw [h5]; rfl) (fun _ h => h) hgl (VRs_mono (w := W) ⟨fun _ _ h => h, fun _ _ _ h => h, fun _ h => h.elim⟩ _ _ _ _ (fun _ h => .inl h) (fun _ _ => rfl) hv)

theorem one_cell' {v u : Value} (h : v.cells.toList = [u]) (hv : ∀ cs, v = .agg cs → False) : v = u := by
  cases v with
  | agg cs => exact (hv cs rfl).elim
  | _ => simpa [Value.cells] using h

/-- A value of one cell, told. -/
theorem told_one {W : World} {g : GV} {v : Value} (h : Told W [g] v.cells.toList) (hv : ∀ cs, v = .agg cs → False) : VR W E0 (fun _ => False) g (fun c => c < W.heap.size) v := by
  obtain ⟨u, us, h1, h2, h3⟩ := h
  simp only [VRsi] at h3
  subst h3
  rw [one_cell' h1 hv]
  exact h2
theorem told_agg {W : World} {cs : List GV} {v : Value} (h : Told W cs v.cells.toList) (hv : ∃ us, v = .agg us) : VR W E0 (fun _ => False) (.agg cs) (fun c => c < W.heap.size) v := by
  obtain ⟨us, rfl⟩ := hv
  exact ⟨us, rfl, h⟩

/-- A slice, the size of its elements told. -/
theorem tells_sl {α : Type} {P : Program} {t e es : Nat} {mk : α → List GV} {I : α → Prop} (ht : P.underlying t = some (.slice e)) (hs : P.cellsOf t = 1) (hes : P.cellsOf e = es) (he : Tells P e mk I) : Tells P t (fun xs : List α => [fzl true es mk xs]) (inSl I) := by
  subst hes
  exact tells_slice ht hs he

theorem tells_st {α : Type} {P : Program} {t : TypeId} {fs : Array Field} {l : List Field} {o sz : Nat} {mk : α → List GV} {I : α → Prop} (ht : P.underlying t = some (.struct fs)) (hl : fs.toList = l) (h : TellsAt P l o sz mk I) (ho : o = 0) (hs : P.cellsOf t = sz) : Tells P t mk I := by
  subst hl; subst ho; subst hs
  exact tells_struct ht h

/-- What the arguments read as before the call they read as behind it, if nothing that was there has changed. -/
theorem below_allT {H : Type} {enc : TypeId × Value → H} {P : Program} (hl : laidOutB P = true) {W W' : World} (hb : Below W.heap.size W W') :
    ∀ {ts : List TypeId} {vs : List Value} {ds : List (DataW H)} {ps : List MemPlace}, (∀ t ∈ ts, P.readableRec t = true ∧ t < P.types.size) →
      DataW.TrodAll enc P W 0 (fun _ => true) true ts vs ds ps → DataW.TrodAll enc P W' 0 (fun b => decide (b < W.heap.size)) true ts vs ds ps
  | [], [], [], _, _, h => h
  | t :: ts, v :: vs, d :: ds, ps, hr, h => by
    obtain ⟨p, q, h1, h2, rfl⟩ := h
    obtain ⟨a, b⟩ := hr t (by simp)
    exact ⟨p, q, Below.trod hl a b h1 hb (by obtain ⟨m, hm⟩ := h1; exact DataW.trod_lt m _ _ _ hm), below_allT hl hb (fun t ht => hr t (by simp [ht])) h2, rfl⟩
  | [], [], _ :: _, _, _, h => h.elim
  | [], _ :: _, _, _, _, h => h.elim
  | _ :: _, [], _, _, _, h => h.elim
  | _ :: _, _ :: _, [], _, _, h => h.elim


end Go.Proofs.Ytlbnioapepelnaa.G
