/- The law FnExactCertain, for all data. -/
import Derived.Test.YtopmnigfklgnkaaTCert
import Derived.Test.YtopmnigfklgnkaaSLFnExactCertain
namespace Go.Proofs.Ytopmnigfklgnkaa.G
open Go.RowKit
set_option linter.unusedVariables false
set_option linter.unusedSimpArgs false
open Classical in
theorem certM_ok (a : ChainT) (hm : okChain a) : okStringS (certM a) := by
  obtain ⟨xs, ds, us⟩ := a
  unfold certM
  by_cases h : ChainP xs ds us
  · rw [if_pos h]
    obtain ⟨h0, e0, e1, e2, e3⟩ := server0 h
    rw [e0]
    have hs := h.2.2.2.1 xs[0] (List.getElem_mem h0)
    exact ⟨by rw [List.length_take]; omega, fun x hx => by have := hs.2.2 x (List.mem_of_mem_take hx); omega⟩
  · rw [if_neg h]
    exact ⟨by simp, fun x hx => by cases hx⟩
theorem FnExactCertain_row (a0 : (List ((List (ByteArray) × Int)) × List (List (ByteArray)) × List (List (Int)))) (i0 : (inSl (fun x1 : (List (ByteArray) × Int) => inSl (fun x2 : ByteArray => x2.size ≤ maxLen) x1.1 ∧ (Lit.int .i64 x1.2).wf = true) a0.1) ∧ (inSl (fun x1 : List (ByteArray) => inSl (fun x2 : ByteArray => x2.size ≤ maxLen) x1) a0.2.1 ∧ inSl (fun x1 : List (Int) => inSl (fun x2 : Int => (Lit.int .i64 x2).wf = true) x1) a0.2.2)) : NN fn.laws_FnExactCertain [(.agg [fzl true 2 (fun x1 : (List (ByteArray) × Int) => [fzl true 1 (fun x2 : ByteArray => [GV.str x2]) x1.1, GV.int .i64 x1.2]) a0.1, fzl true 1 (fun x1 : List (ByteArray) => [fzl true 1 (fun x2 : ByteArray => [GV.str x2]) x1]) a0.2.1, fzl true 1 (fun x1 : List (Int) => [fzl true 1 (fun x2 : Int => [GV.int .i64 x2]) x1]) a0.2.2])] = some (.bool true) := by
  obtain ⟨xs, ds, us⟩ := a0
  simp only at i0
  have sz0 := laws_szChain_spec xs ds us 1048576 i0 (by omega) (by omega)
  obtain ⟨a, ha⟩ : ∃ a : ChainT, (xs, ds, us) = a := ⟨_, rfl⟩
  show NN fn.laws_FnExactCertain [.agg (mChain true (xs, ds, us))] = some (.bool true)
  have sz : NN fn.laws_szChain [.agg (mChain true (xs, ds, us)), .int .i64 1048576] = _ := sz0
  have bM : ∀ (H : Heap) (gs zs : List GV), bors H gs = some zs → bors H (.agg (mChain true (xs, ds, us)) :: gs) = some (.agg (mChain true (xs, ds, us)) :: zs) := fun H gs zs h => by
    rw [bors_cons, h]; simp
  rw [ha] at sz bM ⊢
  have hML : (mChain true a).length = 3 := rfl
  obtain ⟨M, hM⟩ : ∃ M, mChain true a = M := ⟨_, rfl⟩
  rw [hM] at sz bM hML ⊢
  apply S.laws_FnExactCertain.gives (k := 0)
  obtain ⟨H0, hH0⟩ : ∃ H0 : Heap, [M] = H0 := ⟨_, rfl⟩
  have hbox : ∀ {Q : Type} (K : GV → Heap → Option Q), kbox (.agg M) [] K = K (.ptr 0 0 3) H0 := fun K => by rw [kbox_agg, hML, ← hH0]; rfl
  have A0 : H0[0]? = some M := by rw [← hH0]; rfl
  have sz' : kN NN fn.laws_szChain [.agg M, .int .i64 1048576] H0 = _ := kN_at (bM _ _ _ rfl) sz
  by_cases h : (1048576 : Int) < (zChain a : Int)
  · rw [if_pos h] at sz'
    simp [S.laws_FnExactCertain.run, hbox, kloadA_at A0 hML, sz', -kN_eq]
  rw [if_neg h] at sz'
  have hm : okChain a := okChain_of (by omega)
  have h1 : ¬ ((1048576 : Int) - (zChain a : Int) < 0) := by omega
  have toC := fun H => fresh_agg goodChain (f := fn.laws_toChain) (args := [.agg M]) (xs := [.agg M]) (H := H) (x := a) (bM _ _ _ rfl) (by rw [← hM]; exact laws_toChain_spec a hm H.length)
  have gE : Good 1 1 cs (RFl cs) := RFl.good (es := 1) (mk := cs) (fun _ => rfl) (fun _ => rfl)
  have okc := certM_ok a hm
  have cl := cChain_le hm
  have cl2 := cStringS_le okc
  -- what the reference says
  obtain ⟨c1, R1, H1, t1, r1, n1, b1, f1, l1⟩ := toC H0
  have A1 := f1.blk A0 no_nil
  have s1 : kN NN fn.spec_Certain [.agg c1] H1 = some (fzl false 1 cs (certM a)) := kN_at (bors_agg goodChain (by omega) r1 rfl) (spec_Certain_spec a hm)
  -- the argument of the program
  obtain ⟨c2, R2, H2, t2, r2, n2, b2, f2, l2⟩ := toC H1
  have A2 := f2.blk A1 no_nil
  have cl' := goodChain.len r2
  have v2 := var_at (H := H2) (z := [.nils, .nils, .nils]) (c := c2) (n := 3) rfl cl' (goodChain.cell r2)
  obtain ⟨H3, hH3⟩ : ∃ H3, H2 ++ [c2] = H3 := ⟨_, rfl⟩
  have f3 : Fr [] H2 H3 := by rw [← hH3]; exact .app
  have l3 : H3.length = H2.length + 1 := by rw [← hH3]; simp
  have X3 : H3[H2.length]? = some c2 := by rw [← hH3]; simp
  rw [hH3] at v2
  have A3 := f3.blk A2 no_nil
  have r3 := goodChain.keep r2 f3 (fun _ _ => no_nil)
  -- the program
  obtain ⟨g, Rg, H4, t4, r4, n4, b4, f4, l4⟩ := fresh_one goodStringS (f := fn.impl_Certain) (args := [.agg c2]) (H := H3) (bors_agg goodChain (by omega) r3 rfl) (impl_Certain_spec a hm H3.length)
  have A4 := f4.blk A3 no_nil
  have X4 := f4.blk X3 no_nil
  have r4c := goodChain.keep r3 f4 (fun _ _ => no_nil)
  have w0 : ∀ H : Heap, bors H [fzl false 1 cs (certM a)] = some [fzl true 1 cs (certM a)] := fun H => by simp
  have es : NN fn.laws_eqStringS [fzl true 1 cs (certM a), fzl true 1 cs (certM a)] = some (.bool true) := by rw [laws_eqStringS_spec _ _ okc, decide_eq_true rfl]
  have e4 : kN NN fn.laws_eqStringS [g, fzl false 1 cs (certM a)] H4 = some (.bool true) := kN_at (bors_one gE (by omega) r4 (w0 _)) es
  -- the argument is as it was
  obtain ⟨c5, R5, H5, t5, r5, n5, b5, f5, l5⟩ := toC H4
  have A5 := f5.blk A4 no_nil
  have r5c := goodChain.keep r4c f5 (fun _ _ => no_nil)
  have r5g := goodStringS.keep r4 f5 (fun _ _ => no_nil)
  have ec : NN fn.laws_eqChain [.agg (mChain true a), .agg (mChain true a)] = some (.bool true) := by
    have := laws_eqChain_spec a.1 a.1 a.2.1 a.2.1 a.2.2 a.2.2 hm
    rw [decide_eq_true rfl] at this
    exact this
  have e5 : kN NN fn.laws_eqChain [.agg c2, .agg c5] H5 = some (.bool true) := kN_at (bors_agg goodChain (by omega) r5c (bors_agg goodChain (by omega) r5 rfl)) ec
  -- marks in the argument
  obtain ⟨H6, m6, r6c, f6⟩ := laws_markChain_spec H5 c2 a R2 1 hm r5c n2 (by omega)
  have A6 := f6.blk A5 (b2.no (by have := l1; have : 0 < H0.length := by rw [← hH0]; simp
                                  omega))
  have r6g := goodStringS.keep r5g f6 (b4.apart b2 (by omega))
  have e6 : kN NN fn.laws_eqStringS [g, fzl false 1 cs (certM a)] H6 = some (.bool true) := kN_at (bors_one gE (by omega) r6g (w0 _)) es
  have p6 : ¬ ((((1 + cChain a : Nat) : Int)) < 0) := by omega
  -- marks in what came back
  obtain ⟨H7, m7, r7g, f7⟩ := laws_markStringS_spec H6 g (certM a) Rg 1 okc r6g n4 (by omega)
  have A7 := f7.blk A6 (b4.no (by have : 0 < H0.length := by rw [← hH0]; simp
                                  omega))
  have hd := laws_heldStringS_spec (certM a) 1 okc (by omega)
  have bi : ∀ H : Heap, bors H [.int .i64 ((1 : Nat) : Int)] = some [.int .i64 ((1 : Nat) : Int)] := fun _ => rfl
  have q7 : kN NN fn.laws_heldStringS [g, .int .i64 ((1 : Nat) : Int)] H7 = some (.int .i64 ((1 + cStringS (certM a) : Nat) : Int)) := kN_at (bors_one gE (by omega) r7g (bi _)) hd
  have p7 : ¬ ((((1 + cStringS (certM a) : Nat) : Int)) < 0) := by omega
  -- once more
  obtain ⟨c8, R8, H8, t8, r8, n8, b8, f8, l8⟩ := toC H7
  have r8g := goodStringS.keep r7g f8 (fun _ _ => no_nil)
  obtain ⟨g9, R9, H9, t9, r9, n9, b9, f9, l9⟩ := fresh_one goodStringS (f := fn.impl_Certain) (args := [.agg c8]) (H := H8) (bors_agg goodChain (by omega) r8 rfl) (impl_Certain_spec a hm H8.length)
  have r9g := goodStringS.keep r8g f9 (fun _ _ => no_nil)
  have e9 : kN NN fn.laws_eqStringS [g9, fzl false 1 cs (certM a)] H9 = some (.bool true) := kN_at (bors_one gE (by omega) r9 (w0 _)) es
  have q9 : kN NN fn.laws_heldStringS [g, .int .i64 ((1 : Nat) : Int)] H9 = some (.int .i64 ((1 + cStringS (certM a) : Nat) : Int)) := kN_at (bors_one gE (by omega) r9g (bi _)) hd
  simp only [show ((1 : Nat) : Int) = 1 from rfl] at m6 m7 q7 q9
  simp [S.laws_FnExactCertain.run, hbox, kloadA_at A0 hML, kloadA_at A1 hML, kloadA_at A4 hML, kloadA_at A7 hML, kloadA_at X3 cl', kloadA_at (f5.blk X4 no_nil) cl', kloadA_at X4 cl', sz', h1, t1, s1, t2, v2, hH3, t4, e4, t5, e5, m6, e6, p6, m7, q7, p7, t8, t9, e9, q9, -kN_eq, -kF_OO, -kloadA_ptr, -kstore_ptr, -Int.natCast_add]
end Go.Proofs.Ytopmnigfklgnkaa.G
