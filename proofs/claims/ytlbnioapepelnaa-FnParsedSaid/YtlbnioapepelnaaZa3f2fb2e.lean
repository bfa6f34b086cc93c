/- Draws: any parser. Draws: what Step and Parsed are tried at. What a law asks: whether two tellings are alike, a number out of the code. What a law of  -/
import Derived.Test.YtlbnioapepelnaaZcd1b50ec
import Derived.Test.YtlbnioapepelnaaZ88faeb6a
import Derived.KernelRfl
set_option linter.unusedSimpArgs false
set_option linter.unusedVariables false
set_option maxRecDepth 100000
namespace Go.Proofs.Ytlbnioapepelnaa.G
open Go.RowKit
def intB : GV → Bool
  | .int .i64 _ => true
  | _ => false
theorem intB_of {g : GV} (h : intB g = true) : ∃ n : Int, g = .int .i64 n := by
  unfold intB at h
  split at h
  · exact ⟨_, rfl⟩
  · cases h
theorem draw_int {p : Nat} {code : List UInt8} {H : Heap} (hl : code.length ≤ 1048576) (hc : Cur p code H) {T : List GV} (hT : T.all intB = true) {n : Nat} (hn : T.length = n) (h0 : 0 < n) {m : Int} (hm : m = (n : Int)) :
    ∃ (x : Int) (H' : Heap) (q : GV) (y : Int), HH fn.spec_l1Below [.ptr p 0 3, .int .i64 m] (H ++ [T]) = some (.int .i64 x, H') ∧ kia 1 (.sl H.length 0 n n 1) (.int .i64 x) = some q ∧ kload1 H' q = some (.int .i64 y) ∧ kblk q = [H.length] ∧ Dr p code H H' ∧ H.length + 1 ≤ H'.length := by
  subst hm
  obtain ⟨x, H2, e2, x0, _, x1, d2⟩ := spec_l1Below_spec hl (hc.app (T := [T])) n
  have hlt := hc.lt
  have ht : H2[H.length]? = some T := d2.get (by omega) (by simp)
  have hx : x.toNat < T.length := by have := x1 (by omega); omega
  rw [List.all_eq_true] at hT
  obtain ⟨y, hy⟩ := intB_of (hT _ (List.getElem_mem hx))
  refine ⟨x, H2, .ptr H.length x.toNat n, y, e2, ?_, ?_, rfl, (Dr.app hc).trans d2, by have := d2.2.1; simp at this; exact this⟩
  · rw [kia_sl, if_pos ⟨rfl, x0, x1 (by omega)⟩]; simp
  · rw [kload1_at ht hn, List.getElem?_eq_getElem hx, hy]
theorem spec_l6DrawAny_spec {p : Nat} {code : List UInt8} {H : Heap} (hl : code.length ≤ 1048576) (hc : Cur p code H) : ∃ (q : ParserT) (c : List GV) (R : List Nat) (H' : Heap), HH fn.spec_l6DrawAny [.ptr p 0 3] H = some (.agg c, H') ∧ rParser H' c q R ∧ R.Nodup ∧ (∀ i ∈ R, H.length ≤ i) ∧ smP q ∧ Dr p code H H' := by
  have hp := hc.lt
  obtain ⟨H1, hH1⟩ : ∃ H1, H ++ [zPars] = H1 := ⟨_, rfl⟩
  have d1 : Dr p code H H1 := by rw [← hH1]; exact Dr.app hc
  have Z1 : H1[H.length]? = some zPars := by rw [← hH1]; simp
  have l1 : H1.length = H.length + 1 := by rw [← hH1]; simp
  obtain ⟨q, c, R, H2, e2, r2, n2, b2, hs, d2⟩ := spec_l6Draw_spec hl d1.1
  obtain ⟨vP, vT, RP, RT, rfl, pv, rfl⟩ := par_open r2 n2
  have cP := cells1 pv.ps
  have cT := cells1 pv.tx
  have v3 := var_at (H := H2) (z := zPars) (c := parC q vP vT) (n := 4) rfl rfl (by simp [cP.2, cT.2])
  obtain ⟨H3, hH3⟩ : ∃ H3, H2 ++ [parC q vP vT] = H3 := ⟨_, rfl⟩
  rw [hH3] at v3
  have f3 : Fr [] H2 H3 := by rw [← hH3]; exact .app
  have X3 : H3[H2.length]? = some (parC q vP vT) := by rw [← hH3]; simp
  have l2 := d2.2.1
  have mR := goodParser.mem r2
  have A3 : AnyS p code H H.length H2.length q H3 vP vT RP RT :=
    { i := ⟨X3, goodInt64S.keep pv.ps f3 (fun _ _ => no_nil), goodInt64S.keep pv.tx f3 (fun _ _ => no_nil), pv.np, pv.nt, pv.dj, fun h => by have := mR _ (List.mem_append_left _ h); omega, fun h => by have := mR _ (List.mem_append_right _ h); omega⟩
      lo := fun k hk => by have := b2 k (List.mem_append.2 hk); omega
      zz := f3.blk (d2.get (by omega) Z1) no_nil
      dr := by
        have d3 : Dr p code H2 H3 := by rw [← hH3]; exact Dr.app d2.1
        exact d1.trans (d2.trans d3)
      hz := Nat.le_refl _
      hQ := by omega }
  obtain ⟨b, H4, e4, d4⟩ := spec_l1Once_spec hl A3.dr.1 12
  have A4 := A3.draw hp d4
  -- what every way ends in
  have done : ∀ {q' : ParserT} {Hx : Heap} {vP' vT' : GV} {RP' RT' : List Nat}, AnyS p code H H.length H2.length q' Hx vP' vT' RP' RT' → smP q' →
      (∀ G : KT1 (GV × Heap), S.spec_l6DrawAny.n2 0 G (.ptr p 0 3) (.ptr H.length 0 4) (.ptr H2.length 0 4) H3 = S.spec_l6DrawAny.n3 0 G (.ptr H.length 0 4) (.ptr H2.length 0 4) Hx) →
      ∃ (q : ParserT) (c : List GV) (R : List Nat) (H' : Heap), HH fn.spec_l6DrawAny [.ptr p 0 3] H = some (.agg c, H') ∧ rParser H' c q R ∧ R.Nodup ∧ (∀ i ∈ R, H.length ≤ i) ∧ smP q ∧ Dr p code H H' := by
    intro q' Hx vP' vT' RP' RT' A hsm hrun
    obtain ⟨Hy, o1, o2, o3, o4, o5, o6⟩ := A.out hp .nilp (k := 0) (fun x v2 h => kend x ((kloadA 4 h v2).bind fun w2 => finH w2 h))
    refine ⟨q', _, _, Hy, ?_, o3, o4, o5, hsm, o6⟩
    apply S.spec_l6DrawAny.gives (k := 0)
    simp only [S.spec_l6DrawAny.run, S.spec_l6DrawAny.n0, S.spec_l6DrawAny.n1, kalloc_at, hH1, e2, Option.bind_some, kr_mk, List.length_cons, List.length_nil]
    have v3' := v3
    simp only [Nat.zero_add, Nat.reduceAdd] at v3' ⊢
    rw [v3']
    simp only [Option.bind_some]
    rw [hrun, o1]
    show (kloadA 4 Hy (.ptr H.length 0 4)).bind _ = _
    rw [o2]; rfl
  cases b
  · refine done A4 ⟨by have := hs.1; omega, by have := hs.2; omega⟩ (fun G => ?_)
    simp only [S.spec_l6DrawAny.n2, S.spec_l6DrawAny.n4, S.spec_l6DrawAny.n5, S.spec_l6DrawAny.n26, e4, Option.bind_some, kr_mk, kcond_bool, cond_false, kx_nrm]
  obtain ⟨x, H5, e5, x0, _, x1, d5⟩ := spec_l1Below_spec hl A4.dr.1 4
  have hx := x1 (by omega)
  have A5 := A4.draw hp d5
  obtain ⟨na, nb, nc, nz⟩ := A5.p hp
  have h5l := A5.dr.1.lt
  have hQl := (List.getElem?_eq_some_iff.1 A5.i.cell).1
  have pre : ∀ (G : KT2 (GV × Heap)), S.spec_l6DrawAny.n4 0 G (.ptr p 0 3) (.ptr H.length 0 4) (.ptr H2.length 0 4) H3 = S.spec_l6DrawAny.n7 0 G (.ptr p 0 3) (.ptr H.length 0 4) (.ptr H2.length 0 4) (.int .i64 x) H5 := fun G => by
    simp only [S.spec_l6DrawAny.n4, S.spec_l6DrawAny.n5, S.spec_l6DrawAny.n6, e4, e5, Option.bind_some, kr_mk, kcond_bool, cond_true]
  have eqt : ∀ n : Int, x = n → kbin .eql (.int .i64 x) (.int .i64 n) = some (.bool true) := fun n h => by rw [kbin_eql, decide_eq_true h]
  have eqf : ∀ n : Int, x ≠ n → kbin .eql (.int .i64 x) (.int .i64 n) = some (.bool false) := fun n h => by rw [kbin_eql, decide_eq_false h]
  have cases4 : x = 0 ∨ x = 1 ∨ x = 2 ∨ x = 3 := by omega
  rcases cases4 with hx0 | hx1 | hx2 | hx3
  · obtain ⟨y, H6, e6, _, _, d6⟩ := spec_l1From_spec hl A5.dr.1 0 7 (by omega) (by omega) (by omega)
    have A6 := A5.draw hp d6
    obtain ⟨Hy, s7, A7⟩ := (A6.num hp y).1
    refine done A7 ⟨by show q.2.1.length ≤ _; have := hs.1; omega, by show q.2.2.2.length ≤ _; have := hs.2; omega⟩ (fun G => ?_)
    simp only [S.spec_l6DrawAny.n2, pre, S.spec_l6DrawAny.n7, S.spec_l6DrawAny.n8, S.spec_l6DrawAny.n9, S.spec_l6DrawAny.n10, eqt 0 hx0, e6, Option.bind_some, kr_mk, kcond_bool, cond_true, kfa_ptr, Nat.add_zero, s7, kb_nrm, kx_nrm]
  · obtain ⟨x', H6, qq, y, e6, k6, g6, kq, d6, hl6⟩ := draw_int hl A5.dr.1 (T := [.int .i64 (-1), .int .i64 0, .int .i64 9999, .int .i64 10000]) rfl (n := 4) rfl (by omega) (m := 4) rfl
    have A6 := A5.draw hp d6
    obtain ⟨v', H7, H8, RP', a7, s8, A8⟩ := (A6.app hp hs y).1
    have ld := kload1_at (o := 1) (tot := 4) A5.i.cell rfl
    simp only [List.getElem?_cons_succ, List.getElem?_cons_zero] at ld
    have hc5 := A5.dr.1.app (T := [[.int .i64 (-1), .int .i64 0, .int .i64 9999, .int .i64 10000]])
    obtain ⟨kf, kre⟩ := hc5.flat (o := 0) (t := 3) (xs := [.int .i64 4]) rfl
    refine done A8 ⟨by show (q.2.1 ++ [y]).length ≤ _; have := hs.1; simp; omega, by show q.2.2.2.length ≤ _; have := hs.2; omega⟩ (fun G => ?_)
    simp only [S.spec_l6DrawAny.n2, pre, S.spec_l6DrawAny.n7, S.spec_l6DrawAny.n8, S.spec_l6DrawAny.n9, S.spec_l6DrawAny.n11, S.spec_l6DrawAny.n12, S.spec_l6DrawAny.n13, eqf 0 (by omega), eqt 1 hx1, Option.bind_some, kcond_bool, cond_true, cond_false]
    simp [gfill, zeros, ld, kbs_at', kf, kre, e6, k6, g6, a7, s8, -kload1_ptr, -kstore_ptr, -kia_sl]
    simp [chk, meets, touches, show ¬ (H5.length ≤ H2.length) by omega, show ¬ (H5.length ≤ p) by omega, show ¬ (H5.length + 1 ≤ p) by omega, show ¬ (H5.length + 1 ≤ H2.length) by omega, show ¬ (p = H2.length) from nc, show ¬ (H2.length = p) from fun h => nc h.symm, show ¬ (p = H5.length) by omega, show ¬ (H5.length = p) by omega]
  · obtain ⟨x', H6, qq, y, e6, k6, g6, kq, d6, hl6⟩ := draw_int hl A5.dr.1 (T := [.int .i64 62, .int .i64 63, .int .i64 (-1)]) rfl (n := 3) rfl (by omega) (m := 3) rfl
    have A6 := A5.draw hp d6
    obtain ⟨Hy, s7, A7⟩ := (A6.num hp y).2
    refine done A7 ⟨by show q.2.1.length ≤ _; have := hs.1; omega, by show q.2.2.2.length ≤ _; have := hs.2; omega⟩ (fun G => ?_)
    simp only [S.spec_l6DrawAny.n2, pre, S.spec_l6DrawAny.n7, S.spec_l6DrawAny.n8, S.spec_l6DrawAny.n9, S.spec_l6DrawAny.n11, S.spec_l6DrawAny.n12, S.spec_l6DrawAny.n14, S.spec_l6DrawAny.n15, S.spec_l6DrawAny.n16, eqf 0 (by omega), eqf 1 (by omega), eqt 2 hx2, Option.bind_some, kcond_bool, cond_true, cond_false]
    simp [gfill, zeros, kbs_at', e6, k6, g6, s7, -kload1_ptr, -kstore_ptr, -kia_sl]
  · obtain ⟨x', H6, qq, y, e6, k6, g6, kq, d6, hl6⟩ := draw_int hl A5.dr.1 (T := [.int .i64 (-1), .int .i64 97, .int .i64 55296]) rfl (n := 3) rfl (by omega) (m := 3) rfl
    have A6 := A5.draw hp d6
    obtain ⟨v', H7, H8, RP', a7, s8, A8⟩ := (A6.app hp hs y).2
    have ld := kload1_at (o := 3) (tot := 4) A5.i.cell rfl
    simp only [List.getElem?_cons_succ, List.getElem?_cons_zero] at ld
    have hc5 := A5.dr.1.app (T := [[.int .i64 (-1), .int .i64 97, .int .i64 55296]])
    obtain ⟨kf, kre⟩ := hc5.flat (o := 0) (t := 3) (xs := [.int .i64 3]) rfl
    refine done A8 ⟨by show q.2.1.length ≤ _; have := hs.1; omega, by show (q.2.2.2 ++ [y]).length ≤ _; have := hs.2; simp; omega⟩ (fun G => ?_)
    simp only [S.spec_l6DrawAny.n2, pre, S.spec_l6DrawAny.n7, S.spec_l6DrawAny.n8, S.spec_l6DrawAny.n9, S.spec_l6DrawAny.n11, S.spec_l6DrawAny.n12, S.spec_l6DrawAny.n14, S.spec_l6DrawAny.n15, S.spec_l6DrawAny.n17, S.spec_l6DrawAny.n18, S.spec_l6DrawAny.n19, eqf 0 (by omega), eqf 1 (by omega), eqf 2 (by omega), eqt 3 hx3, Option.bind_some, kcond_bool, cond_true, cond_false]
    simp [gfill, zeros, ld, kbs_at', kf, kre, e6, k6, g6, a7, s8, -kload1_ptr, -kstore_ptr, -kia_sl]
    simp [chk, meets, touches, show ¬ (H5.length ≤ H2.length) by omega, show ¬ (H5.length ≤ p) by omega, show ¬ (H5.length + 1 ≤ p) by omega, show ¬ (H5.length + 1 ≤ H2.length) by omega, show ¬ (p = H2.length) from nc, show ¬ (H2.length = p) from fun h => nc h.symm, show ¬ (p = H5.length) by omega, show ¬ (H5.length = p) by omega]
end Go.Proofs.Ytlbnioapepelnaa.G

namespace Go.Proofs.Ytlbnioapepelnaa.G
open Go.RowKit
theorem spec_DrawRuneOk_spec (code : List UInt8) (hl : code.length ≤ 1048576) : ∃ r : Int, NN fn.spec_DrawRuneOk [fzl true 1 cy code] = some (.int .i64 r) := by
  obtain ⟨H1, e1, c1, f1⟩ := spec_l1New_spec code [] hl
  obtain ⟨b, H2, e2, d2⟩ := spec_l1Once_spec hl c1 2
  obtain ⟨C, hC⟩ : ∃ C, fzl true 1 cy code = C := ⟨_, rfl⟩
  rw [hC] at e1 ⊢
  simp only [List.length_nil] at e1 c1 e2
  cases b
  · obtain ⟨n, H3, e3, d3⟩ := spec_l1DrawRune_spec hl d2.1
    simp only [List.length_nil] at e3
    refine ⟨n, S.spec_DrawRuneOk.gives (k := 0) ?_⟩
    simp [S.spec_DrawRuneOk.run, e1, e2, e3]
  · obtain ⟨x, H3, q, y, e3, k3, g3, _, d3, _⟩ := draw_int hl d2.1 (T := [.int .i64 (-1), .int .i64 0, .int .i64 127, .int .i64 128, .int .i64 2047, .int .i64 2048, .int .i64 55295, .int .i64 55296, .int .i64 57343, .int .i64 57344, .int .i64 65535, .int .i64 65536, .int .i64 1114111, .int .i64 1114112, .int .i64 4611686018427387904, .int .i64 (-9223372036854775808)]) rfl (n := 16) rfl (by omega) (m := 16) rfl
    simp only [List.length_nil] at e3
    refine ⟨y, S.spec_DrawRuneOk.gives (k := 0) ?_⟩
    simp [S.spec_DrawRuneOk.run, e1, e2, gfill, zeros, kbs_at', e3, k3, g3, -kload1_ptr, -kia_sl]
theorem fin_pi {h : Heap} {c : List GV} {p : ParserT} {R : List Nat} {r : Int} (hp : rParser h c p R) : finN (.tup [.agg c, .int .i64 r]) h = some (.tup [.agg (mParser false p), .int .i64 r]) :=
  finN_of (frz_tup (.cons (frz_agg (rParser_frz (d := 5) _ _ _ hp)) (.cons frz_int .nil)))
theorem fin_pl {h : Heap} {c : List GV} {v : GV} {p : ParserT} {l : List Int} {R S : List Nat} (hp : rParser h c p R) (hl : rInt64S h [v] l S) : finN (.tup [.agg c, v]) h = some (.tup [.agg (mParser false p), fzl false 1 ci l]) := by
  obtain ⟨ys, a1, a2⟩ := rInt_frz (d := 6) _ _ _ hl
  have e : ∃ r, frz 8 h v = some (fzl false 1 ci l, r) := by
    rw [List.mapM_cons] at a1
    obtain ⟨y, b1, b2⟩ := obsi.1 a1
    simp only [List.mapM_nil, Option.pure_def, Option.bind_some, Option.bind_eq_bind, Option.some.injEq] at b2
    subst b2
    simp only [List.map_cons, List.map_nil, List.cons.injEq, and_true] at a2
    exact ⟨y.2, by rw [b1, ← a2]⟩
  obtain ⟨r, e⟩ := e
  exact finN_of (frz_tup (.cons (frz_agg (rParser_frz (d := 5) _ _ _ hp)) (.cons e .nil)))
theorem zeros_ci : ∀ m : Nat, zeros [GV.int .i64 0] m = (List.replicate m (0 : Int)).flatMap ci
  | 0 => rfl
  | m + 1 => by
    rw [List.replicate_succ, List.flatMap_cons, ← zeros_ci m]; rfl
theorem spec_DrawStep_spec (code : List UInt8) (hl : code.length ≤ 1048576) : ∃ (q : ParserT) (r : Int), NN fn.spec_DrawStep [fzl true 1 cy code] = some (.tup [.agg (mParser false q), .int .i64 r]) ∧ smP q := by
  obtain ⟨H1, e1, c1, f1⟩ := spec_l1New_spec code [zPars] hl
  have Z1 : H1[0]? = some zPars := f1.blk (by rfl) no_nil
  have hp1 := c1.lt
  simp only [List.length_cons, List.length_nil, Nat.zero_add] at e1 c1 hp1
  obtain ⟨q, c, R, H2, e2, r2, n2, b2, hs, d2⟩ := spec_l6DrawAny_spec hl c1
  have cl := goodParser.len r2
  have cc := goodParser.cell r2
  have v3 := var_at (H := H2) (z := zPars) (c := c) (n := 4) rfl cl cc
  obtain ⟨H3, hH3⟩ : ∃ H3, H2 ++ [c] = H3 := ⟨_, rfl⟩
  rw [hH3] at v3
  have d3 : Dr 1 code H2 H3 := by rw [← hH3]; exact Dr.app d2.1
  have X3 : H3[H2.length]? = some c := by rw [← hH3]; simp
  have hl2 := d2.2.1
  obtain ⟨b, H4, e4, d4⟩ := spec_l1Once_spec hl d3.1 10
  have X4 := d4.get (by omega) X3
  have a4 := kloadA_at (n := 4) X4 cl
  have Z4 : H4[0]? = some zPars := d4.get (by omega) (d3.get (by omega) (d2.get (by omega) Z1))
  have r4 : rParser H4 c q R := goodParser.keep (goodParser.keep r2 d3.2 (fun i hi h => by have := b2 i hi; rw [List.mem_singleton] at h; omega)) d4.2 (fun i hi h => by have := b2 i hi; rw [List.mem_singleton] at h; omega)
  obtain ⟨C, hC⟩ : ∃ C, fzl true 1 cy code = C := ⟨_, rfl⟩
  have bC : ∀ H : Heap, bor 9 H (fzl true 1 cy code) = some (fzl true 1 cy code, []) := fun H => bor_fzl (d := 8) (fun _ => rfl) code
  cases b
  · obtain ⟨x, H5, qq, y, e5, k5, g5, kq, d5, hl5⟩ := draw_int hl d4.1 (T := [.int .i64 97, .int .i64 91, .int .i64 93, .int .i64 63, .int .i64 59, .int .i64 53, .int .i64 72, .int .i64 27, .int .i64 7, .int .i64 24, .int .i64 10, .int .i64 92, .int .i64 127, .int .i64 769, .int .i64 19968, .int .i64 109]) rfl (n := 16) rfl (by omega) (m := 16) rfl
    have Z5 := d5.get (by omega) Z4
    have r5 := goodParser.keep r4 d5.2 (fun i hi h => by have := b2 i hi; rw [List.mem_singleton] at h; omega)
    have s6 := kstoreA_at (n := 4) Z5 rfl (c' := c) cl cc
    obtain ⟨H6, hH6⟩ : ∃ H6, H5.set 0 c = H6 := ⟨_, rfl⟩
    rw [hH6] at s6
    have hz := (List.getElem?_eq_some_iff.1 Z5).1
    have f6 : Fr [0] H5 H6 := by rw [← hH6]; exact .set (by simp)
    have X6 : H6[0]? = some c := by rw [← hH6, List.getElem?_set_self hz]
    have a6 := kloadA_at (n := 4) X6 cl
    have r6 := goodParser.keep r5 f6 (fun i hi h => by have := b2 i hi; rw [List.mem_singleton] at h; omega)
    have o6 := fin_pi (r := y) r6
    have hc5 := d4.1.app (T := [[.int .i64 97, .int .i64 91, .int .i64 93, .int .i64 63, .int .i64 59, .int .i64 53, .int .i64 72, .int .i64 27, .int .i64 7, .int .i64 24, .int .i64 10, .int .i64 92, .int .i64 127, .int .i64 769, .int .i64 19968, .int .i64 109]])
    obtain ⟨kf, kre⟩ := hc5.flat (o := 0) (t := 3) (xs := [.int .i64 16]) rfl
    have hl4 := d4.2.1
    have hl3 := d3.2.1
    have hl23 : H2.length < H3.length := (List.getElem?_eq_some_iff.1 X3).1
    refine ⟨q, y, S.spec_DrawStep.gives (k := 0) ?_, hs⟩
    rw [hC] at e1 ⊢
    simp [S.spec_DrawStep.run, kalloc_at, e1, e2, v3, e4, a4, gfill, zeros, kbs_at', kf, kre, e5, k5, g5, kq, s6, a6, o6, -kload1_ptr, -kloadA_ptr, -kstore_ptr, -kia_sl]
    simp [chk, meets, touches, show ¬ (H4.length ≤ H2.length) by omega, show ¬ (H4.length ≤ 1) by omega, show ¬ (H4.length + 1 ≤ 1) by omega, show ¬ (H4.length + 1 ≤ H2.length) by omega, show ¬ (1 = H2.length) by omega, show ¬ (H2.length = 1) by omega, show ¬ (1 = H4.length) by omega, show ¬ (H4.length = 1) by omega, show ¬ (H4.length ≤ 0) by omega, show ¬ (0 = H4.length) by omega, show ¬ (H4.length = 0) by omega, show ¬ (H5.length ≤ H4.length) by omega, show ¬ (H5 = []) from fun h => by rw [h] at hl5; simp at hl5, o6]
  · obtain ⟨r, er⟩ := spec_DrawRuneOk_spec code hl
    have kr : kN NN fn.spec_DrawRuneOk [fzl true 1 cy code] H4 = some (.int .i64 r) := kN_at (by rw [bors_cons, bC]; rfl) er
    have s6 := kstoreA_at (n := 4) Z4 rfl (c' := c) cl cc
    obtain ⟨H6, hH6⟩ : ∃ H6, H4.set 0 c = H6 := ⟨_, rfl⟩
    rw [hH6] at s6
    have hz := (List.getElem?_eq_some_iff.1 Z4).1
    have f6 : Fr [0] H4 H6 := by rw [← hH6]; exact .set (by simp)
    have X6 : H6[0]? = some c := by rw [← hH6, List.getElem?_set_self hz]
    have a6 := kloadA_at (n := 4) X6 cl
    have r6 := goodParser.keep r4 f6 (fun i hi h => by have := b2 i hi; rw [List.mem_singleton] at h; omega)
    have o6 := fin_pi (r := r) r6
    refine ⟨q, r, S.spec_DrawStep.gives (k := 0) ?_, hs⟩
    rw [hC] at e1 kr ⊢
    simp [S.spec_DrawStep.run, kalloc_at, e1, e2, v3, e4, a4, kr, s6, a6, o6, -kload1_ptr, -kloadA_ptr, -kstore_ptr, -kN_eq]
theorem spec_DrawParsed_spec (code : List UInt8) (hl : code.length ≤ 1048576) : ∃ (q : ParserT) (xs : List Int), NN fn.spec_DrawParsed [fzl true 1 cy code] = some (.tup [.agg (mParser false q), fzl false 1 ci xs]) ∧ smP q ∧ xs.length ≤ 3000 := by
  obtain ⟨H1, e1, c1, f1⟩ := spec_l1New_spec code [zPars] hl
  have Z1 : H1[0]? = some zPars := f1.blk (by rfl) no_nil
  have hp1 := c1.lt
  simp only [List.length_cons, List.length_nil, Nat.zero_add] at e1 c1 hp1
  obtain ⟨q, c, R, H2, e2, r2, n2, b2, hs, d2⟩ := spec_l6DrawAny_spec hl c1
  have cl := goodParser.len r2
  have cc := goodParser.cell r2
  have v3 := var_at (H := H2) (z := zPars) (c := c) (n := 4) rfl cl cc
  obtain ⟨H3, hH3⟩ : ∃ H3, H2 ++ [c] = H3 := ⟨_, rfl⟩
  rw [hH3] at v3
  have d3 : Dr 1 code H2 H3 := by rw [← hH3]; exact Dr.app d2.1
  have X3 : H3[H2.length]? = some c := by rw [← hH3]; simp
  have hl2 := d2.2.1
  have R1 : ∀ i ∈ R, i ∉ [1] := fun i hi h => by have := b2 i hi; rw [List.mem_singleton] at h; omega
  -- what stays
  have mR := goodParser.mem r2
  have Z2 := d2.get (by omega) Z1
  have hp2 := d2.1.lt
  have K3 : Cur 1 code H3 ∧ H3[0]? = some zPars ∧ H3[H2.length]? = some c ∧ rParser H3 c q R := ⟨d3.1, d3.get (by omega) Z2, X3, goodParser.keep r2 d3.2 R1⟩
  have Kd : ∀ {Hx Hy : Heap}, (Cur 1 code Hx ∧ Hx[0]? = some zPars ∧ Hx[H2.length]? = some c ∧ rParser Hx c q R) → Dr 1 code Hx Hy → (Cur 1 code Hy ∧ Hy[0]? = some zPars ∧ Hy[H2.length]? = some c ∧ rParser Hy c q R) := fun {Hx Hy} k d =>
    ⟨d.1, d.get (by omega) k.2.1, d.get (by omega) k.2.2.1, goodParser.keep k.2.2.2 d.2 R1⟩
  have Kf : ∀ {S : List Nat} {Hx Hy : Heap}, (Cur 1 code Hx ∧ Hx[0]? = some zPars ∧ Hx[H2.length]? = some c ∧ rParser Hx c q R) → Fr S Hx Hy → (∀ i ∈ S, H2.length < i) → (Cur 1 code Hy ∧ Hy[0]? = some zPars ∧ Hy[H2.length]? = some c ∧ rParser Hy c q R) := fun {S Hx Hy} k f hS => by
    obtain ⟨⟨i, j, w1, w2⟩, k2, k3, k4⟩ := k
    exact ⟨⟨i, j, f.blk w1 (fun h => by have := hS 1 h; omega), w2⟩, f.blk k2 (fun h => by have := hS 0 h; omega), f.blk k3 (fun h => by have := hS _ h; omega), goodParser.keep k4 f (fun i hi h => by have := hS i h; have := mR i hi; omega)⟩
  -- a text and its runes
  obtain ⟨l, H4, e4, hl4, d4⟩ := spec_l6DrawText_spec hl d3.1
  obtain ⟨xs, v5, R5, H5, e5, r5, n5, b5, f5, hx5⟩ := runes_new l (by omega) H4
  have K5 := Kf (Kd K3 d4) f5 (fun i hi => by cases hi)
  have hl3 := d3.2.1
  have hl34 := d4.2.1
  have hl45 := f5.1
  have h23 : H2.length < H3.length := (List.getElem?_eq_some_iff.1 X3).1
  obtain ⟨b, H6, e6, d6⟩ := spec_l1Once_spec hl K5.1 20
  have K6 := Kd K5 d6
  have r6 := goodInt64S.keep r5 d6.2 (fun i hi h => by have := b5 i hi; rw [List.mem_singleton] at h; omega)
  have hl56 := d6.2.1
  -- perhaps one more
  have more : ∃ (xs' : List Int) (v6 : GV) (R6 : List Nat) (H7 : Heap), xs'.length ≤ 1000 ∧ rInt64S H7 [v6] xs' R6 ∧ (∀ i ∈ R6, 2 ≤ i) ∧ (Cur 1 code H7 ∧ H7[0]? = some zPars ∧ H7[H2.length]? = some c ∧ rParser H7 c q R) ∧ ∀ G : KT2 GV, S.spec_DrawParsed.n4 0 G (.ptr 0 0 4) .nils (.ptr 1 0 3) (.ptr H2.length 0 4) v5 H5 = S.spec_DrawParsed.n5 0 G (.ptr 0 0 4) .nils (.ptr 1 0 3) (.ptr H2.length 0 4) v6 H7 := by
    cases b
    · exact ⟨xs, v5, R5, H6, by omega, r6, fun i hi => by have := b5 i hi; omega, K6, fun G => by simp only [S.spec_DrawParsed.n4, e6, Option.bind_some, kr_mk, kcond_bool, cond_false]⟩
    · have gI : Good 1 1 ci (RFl ci) := RFl.good (es := 1) (mk := ci) (fun _ => rfl) (fun _ => rfl)
      have hxx : RFl ci (H6 ++ [[.int .i64 (-1)]]) [.int .i64 (-1)] (-1) [] := ⟨rfl, rfl⟩
      obtain ⟨v6, H7, R6, a1, a2, a3, a4, a5, _⟩ := app_sl gI (by omega) (z := [.int .i64 0]) (b := 8) rfl (by omega) (H := H6 ++ [[.int .i64 (-1)]]) (goodInt64S.grow r6) n5 (by omega) hxx List.nodup_nil (fun i hi => (by cases hi)) (q := H6.length) (by simp)
      have K7 := Kf (Kf K6 (Fr.app (R := []) (t := [[.int .i64 (-1)]])) (fun i hi => by cases hi)) a5 (fun i hi => by have := b5 i hi; omega)
      refine ⟨xs ++ [-1], v6, R6, H7, by rw [List.length_append, List.length_singleton]; omega, a2, fun i hi => ?_, K7, fun G => ?_⟩
      · rcases a4 i hi with h | h | h
        · have := b5 i h; omega
        · cases h
        · simp at h; omega
      · simp only [S.spec_DrawParsed.n4, e6, Option.bind_some, kr_mk, kcond_bool, cond_true]
        simp [gfill, zeros, kbs_at', a1, -S.spec_DrawParsed.n5]
  obtain ⟨xs', v6, R6, H7, hx7, r7, b7, K7, t7⟩ := more
  obtain ⟨b2', H8, e8, d8⟩ := spec_l1Once_spec hl K7.1 60
  have K8 := Kd K7 d8
  have r8 := goodInt64S.keep r7 d8.2 (fun i hi h => by have := b7 i hi; rw [List.mem_singleton] at h; omega)
  -- perhaps a long list
  have last : ∃ (ys : List Int) (v9 : GV) (R9 : List Nat) (H9 : Heap), ys.length ≤ 3000 ∧ rInt64S H9 [v9] ys R9 ∧ (∀ i ∈ R9, 2 ≤ i) ∧ (Cur 1 code H9 ∧ H9[0]? = some zPars ∧ H9[H2.length]? = some c ∧ rParser H9 c q R) ∧ ∀ G : KT2 GV, S.spec_DrawParsed.n5 0 G (.ptr 0 0 4) .nils (.ptr 1 0 3) (.ptr H2.length 0 4) v6 H7 = S.spec_DrawParsed.n6 0 G (.ptr 0 0 4) (.ptr H2.length 0 4) v9 H9 := by
    cases b2'
    · exact ⟨xs', v6, R6, H8, by omega, r8, b7, K8, fun G => by simp only [S.spec_DrawParsed.n5, e8, Option.bind_some, kr_mk, kcond_bool, cond_false]⟩
    · obtain ⟨y, H9, e9, y0, _, y1, d9⟩ := spec_l1Below_spec hl K8.1 2
      have hy := y1 (by omega)
      obtain ⟨m, hm⟩ : ∃ m : Nat, 2000 + y = (m : Int) := ⟨(2000 + y).toNat, by omega⟩
      have ka : kbin .add (.int .i64 2000) (.int .i64 y) = some (.int .i64 (m : Int)) := by rw [kbin_add, wrap_id (by omega) (by omega), hm]
      have km := kmake_eq (z := [.int .i64 0]) (es := 1) (b := 8) (n := m) (h := H9) (by omega) (by omega) rfl
      have hz := zeros_ci m
      have K9 := Kd K8 d9
      have K10 := Kf K9 (Fr.app (R := []) (t := [zeros [GV.int .i64 0] m])) (fun i hi => by cases hi)
      refine ⟨List.replicate m 0, .sl H9.length 0 m m 1, [H9.length], H9 ++ [zeros [.int .i64 0] m], by rw [List.length_replicate]; omega, ?_, fun i hi => ?_, K10, fun G => ?_⟩
      · have := rNewI (xs := List.replicate m (0 : Int)) (H := H9 ++ [zeros [.int .i64 0] m]) (b := H9.length) (by rw [hz]; simp)
        rw [List.length_replicate] at this
        exact this
      · have := K9.1.lt; rw [List.mem_singleton] at hi; omega
      · simp only [S.spec_DrawParsed.n5, e8, e9, ka, km, Option.bind_some, kr_mk, kcond_bool, cond_true]
  obtain ⟨ys, v9, R9, H9, hy9, r9, b9, K9, t9⟩ := last
  have a9 := kloadA_at (n := 4) K9.2.2.1 cl
  have s10 := kstoreA_at (n := 4) K9.2.1 rfl (c' := c) cl cc
  obtain ⟨H10, hH10⟩ : ∃ H10, H9.set 0 c = H10 := ⟨_, rfl⟩
  rw [hH10] at s10
  have hz := (List.getElem?_eq_some_iff.1 K9.2.1).1
  have f10 : Fr [0] H9 H10 := by rw [← hH10]; exact .set (by simp)
  have X10 : H10[0]? = some c := by rw [← hH10, List.getElem?_set_self hz]
  have a10 := kloadA_at (n := 4) X10 cl
  have r10 := goodParser.keep K9.2.2.2 f10 (fun i hi h => by have := b2 i hi; rw [List.mem_singleton] at h; omega)
  have l10 := goodInt64S.keep r9 f10 (fun i hi h => by have := b9 i hi; rw [List.mem_singleton] at h; omega)
  have o10 := fin_pl r10 l10
  refine ⟨q, ys, S.spec_DrawParsed.gives (k := 0) ?_, hs, hy9⟩
  obtain ⟨C, hC⟩ : ∃ C, fzl true 1 cy code = C := ⟨_, rfl⟩
  rw [hC] at e1 ⊢
  simp [S.spec_DrawParsed.run, kalloc_at, e1, e2, v3, e4, e5, t7, t9, a9, s10, a10, o10, -S.spec_DrawParsed.n4, -S.spec_DrawParsed.n5, -kF_OO, -kload1_ptr, -kloadA_ptr, -kstore_ptr]
end Go.Proofs.Ytlbnioapepelnaa.G

namespace Go.Proofs.Ytlbnioapepelnaa.G
open Go.RowKit
theorem laws_big_spec (code : List UInt8) : NN fn.laws_big [fzl true 1 cy code] = some (.bool (decide (4096 < code.length))) := by
  apply S.laws_big.gives (k := 0)
  have kl : klen (fzl true 1 cy code) = some (.int .i64 (code.length : Nat)) := klen_fzl
  have gt : kbin .gtr (.int .i64 (code.length : Nat)) (.int .i64 4096) = some (.bool (decide (4096 < code.length))) := by
    rw [kbin_gtr]; congr 2; rw [Bool.eq_iff_iff]; simp; omega
  generalize fzl true 1 cy code = C at *
  generalize GV.int .i64 (code.length : Nat) = L at *
  simp [S.laws_big.run, kl, gt]
theorem laws_likeInts_same (xs : List Int) (hm : xs.length ≤ 1048576) : NN fn.laws_likeInts [fzl true 1 ci xs, fzl true 1 ci xs] = some (.bool true) := by
  have kl : klen (fzl true 1 ci xs) = some (.int .i64 (xs.length : Nat)) := klen_fzl
  have nf : kbin .neq (.int .i64 (xs.length : Int)) (.int .i64 (xs.length : Int)) = some (.bool false) := by rw [kbin_neq, decide_eq_false (by simp)]
  have key := loop_inv (T := Unit) (Inv := fun _ _ => True) (n := xs.length) (f := fun r j _ => fun (G : KT1 GV) => S.laws_likeInts.l6 (xs.length + 1) G r (fzl true 1 ci xs) (fzl true 1 ci xs) (.bool false) (.int .i64 (j : Int)) []) (A := fun _ => fun G => G (.ext 0) (.bool false) []) (m := xs.length + 1)
    (fun j r _ hj _ => by
      have lt : kbin .lss (.int .i64 (j : Int)) (.int .i64 (xs.length : Int)) = some (.bool true) := by rw [klt, decide_eq_true hj]
      have k0 : kia 1 (fzl true 1 ci xs) (.int .i64 (j : Int)) = some (elp true ci xs j) := by rw [kia_fzl (es := 1) (fun _ => rfl), if_pos (by omega)]; rfl
      have ke : kload1 [] (elp true ci xs j) = some (.int .i64 xs[j]) := by rw [kload1_ci, get_of hj]; rfl
      have ne : kbin .neq (.int .i64 xs[j]) (.int .i64 xs[j]) = some (.bool false) := by rw [kbin_neq, decide_eq_false (by simp)]
      have kj := kadd1 (n := j) (by omega)
      refine ⟨(), funext fun G => ?_, trivial⟩
      simp only [S.laws_likeInts.l6]
      generalize fzl true 1 ci xs = X at *
      simp [kl, lt, k0, ke, ne, kj, -kbin_lss, -kbin_neq, -kbin_add, -Int.natCast_add])
    (fun r _ _ => by
      have lt : kbin .lss (.int .i64 (xs.length : Int)) (.int .i64 (xs.length : Int)) = some (.bool false) := by rw [klt, decide_eq_false (by omega)]
      funext G
      simp only [S.laws_likeInts.l6]
      generalize fzl true 1 ci xs = X at *
      simp [kl, lt, -kbin_lss]) (s := ()) trivial (by omega)
  obtain ⟨_, k1, _⟩ := key
  have k1' := fun G => congrFun k1 G
  simp only [show ((0 : Nat) : Int) = 0 from rfl] at k1'
  apply S.laws_likeInts.gives (k := xs.length + 1)
  generalize fzl true 1 ci xs = X at *
  simp [S.laws_likeInts.run, kl, nf, k1', -kbin_neq]
theorem laws_likeParser_same (p : ParserT) (hm : okParser p) : NN fn.laws_likeParser [.agg (mParser true p), .agg (mParser true p)] = some (.bool true) := by
  obtain ⟨s, ps, m, tx⟩ := p
  obtain ⟨h1, h2⟩ := hm
  have i1 := laws_likeInts_same ps h1
  have i2 := laws_likeInts_same tx h2
  have k1 : ∀ H, kN NN fn.laws_likeInts [fzl true 1 ci ps, fzl true 1 ci ps] H = some (.bool true) := fun H => kN_at (by simp) i1
  have k2 : ∀ H, kN NN fn.laws_likeInts [fzl true 1 ci tx, fzl true 1 ci tx] H = some (.bool true) := fun H => kN_at (by simp) i2
  apply S.laws_likeParser.gives (k := 0)
  simp [S.laws_likeParser.run, mParser, k1, k2, -kN_eq]
theorem laws_likeActions_same (l : List ActionT) (hm : okActionS l) : NN fn.laws_likeActions [fzl true 5 (mAction true) l, fzl true 5 (mAction true) l] = some (.bool true) := by
  have hm1 : l.length ≤ 1048576 := hm.1
  have kl : klen (fzl true 5 (mAction true) l) = some (.int .i64 (l.length : Nat)) := klen_fzl
  have nf : kbin .neq (.int .i64 (l.length : Int)) (.int .i64 (l.length : Int)) = some (.bool false) := by rw [kbin_neq, decide_eq_false (by simp)]
  have key := loop_inv (T := Heap) (Inv := fun _ _ => True) (n := l.length) (f := fun r j H => fun (G : KT1 GV) => S.laws_likeActions.l6 (l.length + 1) G r (fzl true 5 (mAction true) l) (fzl true 5 (mAction true) l) (.bool false) (.int .i64 (j : Int)) H) (A := fun H => fun G => G (.ext 0) (.bool false) H) (m := l.length + 1)
    (fun j r H hj _ => by
      have lt : kbin .lss (.int .i64 (j : Int)) (.int .i64 (l.length : Int)) = some (.bool true) := by rw [klt, decide_eq_true hj]
      have k0 : kia 5 (fzl true 5 (mAction true) l) (.int .i64 (j : Int)) = some (elp true (mAction true) l j) := by rw [kia_fzl (es := 5) (fun _ => rfl), if_pos (by omega)]; rfl
      have ke : ∀ H, kloadA 5 H (elp true (mAction true) l j) = some (.agg (mAction true l[j])) := fun H => by rw [kloadA_elp (es := 5) (fun _ => rfl) (by omega), get_of hj]; rfl
      have kj := kadd1 (n := j) (by omega)
      obtain ⟨o1, o2⟩ := hm.2 _ (List.getElem_mem hj)
      obtain ⟨⟨a, b, c, d, e⟩, ha⟩ : ∃ x, l[j] = x := ⟨_, rfl⟩
      rw [ha] at ke o1 o2
      have i1 : ∀ H, kN NN fn.laws_likeInts [fzl true 1 ci c, fzl true 1 ci c] H = some (.bool true) := fun H => kN_at (by simp) (laws_likeInts_same c o1)
      have i2 : ∀ H, kN NN fn.laws_likeInts [fzl true 1 ci e, fzl true 1 ci e] H = some (.bool true) := fun H => kN_at (by simp) (laws_likeInts_same e o2)
      have M : mAction true (a, b, c, d, e) = [.int .i64 a, .int .i64 b, fzl true 1 ci c, .int .i64 d, fzl true 1 ci e] := rfl
      rw [M] at ke
      have cC : (fzl true 1 ci c).cells = [fzl true 1 ci c] ∧ (fzl true 1 ci c).isCell = true := by cases c <;> exact ⟨rfl, rfl⟩
      have cE : (fzl true 1 ci e).cells = [fzl true 1 ci e] ∧ (fzl true 1 ci e).isCell = true := by cases e <;> exact ⟨rfl, rfl⟩
      obtain ⟨XC, hXC⟩ : ∃ X, fzl true 1 ci c = X := ⟨_, rfl⟩
      obtain ⟨XE, hXE⟩ : ∃ X, fzl true 1 ci e = X := ⟨_, rfl⟩
      rw [hXC] at ke i1 cC
      rw [hXE] at ke i2 cE
      have v1 := var_at (H := H) (z := [.int .i64 0, .int .i64 0, .nils, .int .i64 0, .nils]) (c := [.int .i64 a, .int .i64 b, XC, .int .i64 d, XE]) (n := 5) rfl rfl (by simp [cC.2, cE.2])
      obtain ⟨H1, hH1⟩ : ∃ H1, H ++ [[.int .i64 a, .int .i64 b, XC, .int .i64 d, XE]] = H1 := ⟨_, rfl⟩
      rw [hH1] at v1
      have X1 : H1[H.length]? = some [.int .i64 a, .int .i64 b, XC, .int .i64 d, XE] := by rw [← hH1]; simp
      have v2 := var_at (H := H1) (z := [.int .i64 0, .int .i64 0, .nils, .int .i64 0, .nils]) (c := [.int .i64 a, .int .i64 b, XC, .int .i64 d, XE]) (n := 5) rfl rfl (by simp [cC.2, cE.2])
      obtain ⟨H2, hH2⟩ : ∃ H2, H1 ++ [[.int .i64 a, .int .i64 b, XC, .int .i64 d, XE]] = H2 := ⟨_, rfl⟩
      rw [hH2] at v2
      have X2 : H2[H1.length]? = some [.int .i64 a, .int .i64 b, XC, .int .i64 d, XE] := by rw [← hH2]; simp
      have X12 : H2[H.length]? = some [.int .i64 a, .int .i64 b, XC, .int .i64 d, XE] := by rw [← hH2, List.getElem?_append_left (List.getElem?_eq_some_iff.1 X1).1]; exact X1
      have ld := fun (o : Nat) => And.intro (kload1_at (o := o) (tot := 5) X12 rfl) (kload1_at (o := o) (tot := 5) X2 rfl)
      have n1 : ∀ x : Int, kbin .neq (.int .i64 x) (.int .i64 x) = some (.bool false) := fun x => by rw [kbin_neq, decide_eq_false (by simp)]
      have l0 := ld 0
      have l1 := ld 1
      have l2 := ld 2
      have l3 := ld 3
      have l4 := ld 4
      simp only [List.getElem?_cons_succ, List.getElem?_cons_zero] at l0 l1 l2 l3 l4
      refine ⟨H2, funext fun G => ?_, trivial⟩
      simp only [S.laws_likeActions.l6]
      generalize fzl true 5 (mAction true) l = X at *
      simp [kl, lt, k0, ke, kalloc_at, v1, v2, l0.1, l0.2, l1.1, l1.2, l2.1, l2.2, l3.1, l3.2, l4.1, l4.2, n1, i1, i2, kj, -kbin_lss, -kbin_neq, -kbin_add, -kN_eq, -kload1_ptr, -kloadA_ptr, -kstore_ptr, -Int.natCast_add])
    (fun r H _ => by
      have lt : kbin .lss (.int .i64 (l.length : Int)) (.int .i64 (l.length : Int)) = some (.bool false) := by rw [klt, decide_eq_false (by omega)]
      funext G
      simp only [S.laws_likeActions.l6]
      generalize fzl true 5 (mAction true) l = X at *
      simp [kl, lt, -kbin_lss]) (s := []) trivial (by omega)
  obtain ⟨H, k1, _⟩ := key
  have k1' := fun G => congrFun k1 G
  simp only [show ((0 : Nat) : Int) = 0 from rfl] at k1'
  apply S.laws_likeActions.gives (k := l.length + 1)
  generalize fzl true 5 (mAction true) l = X at *
  simp [S.laws_likeActions.run, kl, nf, k1', -kbin_neq]
theorem laws_pick_spec (code : List UInt8) (hl : code.length ≤ 1048576) (s n : Int) (h0 : 0 ≤ s ∧ s ≤ 1000000) (hn : 0 < n) : ∃ y : Int, NN fn.laws_pick [fzl true 1 cy code, .int .i64 s, .int .i64 n] = some (.int .i64 y) ∧ 0 ≤ y ∧ y < n := by
  have kl : klen (fzl true 1 cy code) = some (.int .i64 (code.length : Nat)) := klen_fzl
  have m0 : kbin .mul (.int .i64 7919) (.int .i64 s) = some (.int .i64 (7919 * s)) := by rw [kbin_mul, wrap_id (by omega) (by omega)]
  have m1 : kbin .add (.int .i64 (code.length : Nat)) (.int .i64 (7919 * s)) = some (.int .i64 ((code.length : Int) + 7919 * s)) := by rw [kbin_add, wrap_id (by omega) (by omega)]
  have key := loop_inv (T := Int) (Inv := fun _ x => 0 ≤ x ∧ x ≤ 100000000000) (n := code.length) (f := fun r j x => fun (G : KT3 GV) => S.laws_pick.l6 (code.length + 1) G r (fzl true 1 cy code) (.int .i64 s) (.int .i64 n) (.int .i64 0) (.int .i64 x) (.int .i64 (j : Int)) []) (A := fun x => fun G => G (.ext 0) (.int .i64 n) (.int .i64 0) (.int .i64 x) []) (m := code.length + 1)
    (fun j r x hj hx => by
      have h1 : (j : Int) < code.length := by omega
      have lt : kbin .lss (.int .i64 (j : Int)) (.int .i64 (code.length : Int)) = some (.bool true) := by rw [klt, decide_eq_true hj]
      have ki := kia_cy (code := code) (i := (j : Nat)) (by omega) h1
      have ld := kload1_cy (H := []) (code := code) (j := j) hj
      rw [show ((j : Nat) : Int).toNat = j by omega] at ki
      have hb := u8_lt code[j]
      have a1 : kbin .mul (.int .i64 x) (.int .i64 127) = some (.int .i64 (x * 127)) := by rw [kbin_mul, wrap_id (by omega) (by omega)]
      have cv : kconvI .i64 (.int .u8 (code[j].toNat : Int)) = some (.int .i64 (code[j].toNat : Int)) := by rw [kconvI_int, wrap8_64]
      have a2 : kbin .add (.int .i64 (x * 127)) (.int .i64 (code[j].toNat : Int)) = some (.int .i64 (x * 127 + code[j].toNat)) := by rw [kbin_add, wrap_id (by omega) (by omega)]
      have a3 : kbin .add (.int .i64 (x * 127 + code[j].toNat)) (.int .i64 s) = some (.int .i64 (x * 127 + code[j].toNat + s)) := by rw [kbin_add, wrap_id (by omega) (by omega)]
      have a4 : kbin .rem (.int .i64 (x * 127 + code[j].toNat + s)) (.int .i64 1000003) = some (.int .i64 ((x * 127 + code[j].toNat + s) % 1000003)) := by rw [kbin_rem (by omega), Int.tmod_eq_emod_of_nonneg (by omega)]
      have kj := kadd1 (n := j) (by omega)
      refine ⟨(x * 127 + code[j].toNat + s) % 1000003, funext fun G => ?_, by omega⟩
      simp only [S.laws_pick.l6]
      generalize fzl true 1 cy code = X at *
      simp [kl, lt, ki, ld, cv, a1, a2, a3, a4, kj, -kbin_lss, -kbin_add, -kbin_mul, -kconvI_int, -Int.natCast_add])
    (fun r x _ => by
      have lt : kbin .lss (.int .i64 (code.length : Int)) (.int .i64 (code.length : Int)) = some (.bool false) := by rw [klt, decide_eq_false (by omega)]
      funext G
      simp only [S.laws_pick.l6]
      generalize fzl true 1 cy code = X at *
      simp [kl, lt, -kbin_lss]) (s := (code.length : Int) + 7919 * s) ⟨by omega, by omega⟩ (by omega)
  obtain ⟨x, k1, hx⟩ := key
  have k1' := fun G => congrFun k1 G
  simp only [show ((0 : Nat) : Int) = 0 from rfl] at k1'
  have rm : kbin .rem (.int .i64 x) (.int .i64 n) = some (.int .i64 (x % n)) := by rw [kbin_rem (by omega), Int.tmod_eq_emod_of_nonneg hx.1]
  refine ⟨x % n, S.laws_pick.gives (k := code.length + 1) ?_, Int.emod_nonneg _ (by omega), Int.emod_lt_of_pos _ hn⟩
  generalize fzl true 1 cy code = X at *
  simp [S.laws_pick.run, kl, m0, m1, k1', rm, -kbin_add, -kbin_mul]
end Go.Proofs.Ytlbnioapepelnaa.G

namespace Go.Proofs.Ytlbnioapepelnaa.G
open Go.RowKit
theorem bor_cy {H : Heap} {t : Bool} {l : List UInt8} : bor 9 H (fzl t 1 cy l) = some (fzl true 1 cy l, []) := bor_fzl (d := 8) (fun _ => rfl) l
theorem bors_cy {H : Heap} {t : Bool} {l : List UInt8} : bors H [fzl t 1 cy l] = some [fzl true 1 cy l] := by rw [bors_cons, bor_cy]; rfl
theorem code_of {a0 : List Int} (h : inSl (fun x1 : Int => (Lit.int .u8 x1).wf = true) a0) : ∃ code : List UInt8, fzl true 1 (fun x1 : Int => [GV.int .u8 x1]) a0 = fzl true 1 cy code ∧ code.length = a0.length := by
  have key : ∀ l : List Int, (∀ x ∈ l, (Lit.int .u8 x).wf = true) → ∃ code : List UInt8, l = code.map (fun b => (b.toNat : Int)) := by
    intro l
    induction l with
    | nil => exact fun _ => ⟨[], rfl⟩
    | cons x l ih =>
      intro h
      obtain ⟨c, hc⟩ := ih fun y hy => h y (by simp [hy])
      have hx := h x (by simp)
      simp [Lit.wf, IntKind.min, IntKind.max, IntKind.bits, IntKind.signed] at hx
      refine ⟨UInt8.ofNat x.toNat :: c, ?_⟩
      rw [List.map_cons, ← hc]
      congr 1
      rw [UInt8.toNat_ofNat', Nat.mod_eq_of_lt (by omega)]
      omega
  obtain ⟨code, rfl⟩ := key a0 h.2
  refine ⟨code, ?_, by simp⟩
  cases code with
  | nil => rfl
  | cons b code =>
    simp only [List.map_cons, fzl]
    congr 1
    · simp
    · rw [List.flatMap_cons, List.flatMap_cons, List.flatMap_map]
theorem lendA {H : Heap} {v : GV} {xs : List ActionT} {R : List Nat} (h : rActionS H [v] xs R) : bor 9 H v = some (fzl true 5 (mAction true) xs, R) := by
  obtain ⟨g, h1, h2⟩ := goodActionS.lend1 (by omega) h
  have e : g = fzl true 5 (mAction true) xs := by have := h2; injection this with this; exact this.symm
  subst e
  exact h1
def LP (H : Heap) (c : List GV) (p : ParserT) : Prop := c.length = 4 ∧ c.all GV.isCell = true ∧ ∀ H', Fr [] H H' → ∃ R, bor 9 H' (.agg c) = some (.agg (mParser true p), R)
def LA (H : Heap) (v : GV) (l : List ActionT) : Prop := ∀ H', Fr [] H H' → ∃ R, bor 9 H' v = some (fzl true 5 (mAction true) l, R)
theorem LP.grow {H H' : Heap} {c : List GV} {p : ParserT} (h : LP H c p) (f : Fr [] H H') : LP H' c p := ⟨h.1, h.2.1, fun H'' f' => h.2.2 H'' (f.trans f')⟩
theorem LA.grow {H H' : Heap} {v : GV} {l : List ActionT} (h : LA H v l) (f : Fr [] H H') : LA H' v l := fun H'' f' => h H'' (f.trans f')
theorem LP.of {H : Heap} {c : List GV} {p : ParserT} {R : List Nat} (h : rParser H c p R) : LP H c p :=
  ⟨goodParser.len h, goodParser.cell h, fun H' f => ⟨R, goodParser.lendS (by omega) (goodParser.keep h f (fun _ _ => no_nil))⟩⟩
theorem LA.of {H : Heap} {v : GV} {l : List ActionT} {R : List Nat} (h : rActionS H [v] l R) : LA H v l := fun H' f => ⟨R, lendA (goodActionS.keep h f (fun _ _ => no_nil))⟩
theorem LP.told (H : Heap) (p : ParserT) : LP H (mParser false p) p := ⟨rfl, by simp, fun H' f => ⟨[], by simp⟩⟩
theorem LA.told (H : Heap) (l : List ActionT) : LA H (fzl false 5 (mAction false) l) l := fun H' f => ⟨[], by simp⟩
theorem like_p {H : Heap} {c d : List GV} {p : ParserT} (h1 : LP H c p) (h2 : LP H d p) (hm : okParser p) : kN NN fn.laws_likeParser [.agg c, .agg d] H = some (.bool true) := by
  obtain ⟨R, e1⟩ := h1.2.2 H .refl
  obtain ⟨S, e2⟩ := h2.2.2 H .refl
  exact kN_at (by rw [bors_cons, e1, bors_cons, e2]; rfl) (laws_likeParser_same p hm)
theorem like_a {H : Heap} {v w : GV} {l : List ActionT} (h1 : LA H v l) (h2 : LA H w l) (hm : okActionS l) : kN NN fn.laws_likeActions [v, w] H = some (.bool true) := by
  obtain ⟨R, e1⟩ := h1 H .refl
  obtain ⟨S, e2⟩ := h2 H .refl
  exact kN_at (by rw [bors_cons, e1, bors_cons, e2]; rfl) (laws_likeActions_same l hm)
theorem ok_i {H : Heap} {c : List GV} {p : ParserT} (h1 : LP H c p) (hm : okParser p) : kN NN fn.impl_ParserOk [.agg c] H = some (.bool (parserB p)) := by
  obtain ⟨R, e1⟩ := h1.2.2 H .refl
  exact kN_at (by rw [bors_cons, e1]; rfl) (impl_ParserOk_spec p hm)
theorem ok_s {H : Heap} {c : List GV} {p : ParserT} (h1 : LP H c p) (hm : okParser p) : kN NN fn.spec_ParserOk [.agg c] H = some (.bool (parserB p)) := by
  obtain ⟨R, e1⟩ := h1.2.2 H .refl
  exact kN_at (by rw [bors_cons, e1]; rfl) (spec_ParserOk_spec p hm)
theorem call_parsed (f : FuncId) (hf : ∀ (p : ParserT) (hm : okParser p) (l : List Int) (hl : l.length ≤ 1048576) (b : Nat), PairO f [.agg (mParser true p), fzl true 1 ci l] b (parsed2M p l)) {H : Heap} {c : List GV} {p : ParserT} (h : LP H c p) (hm : okParser p) (t : Bool) (l : List Int) (hl : l.length ≤ 1048576) :
    ∃ d w H1 R S, kF false HH f [.agg c, fzl t 1 ci l] H = some (.tup [.agg d, w], H1) ∧ rParser H1 d (parsed2M p l).1 R ∧ rActionS H1 [w] (parsed2M p l).2 S ∧ S.Nodup ∧ (∀ i ∈ R, H.length ≤ i) ∧ (∀ i ∈ S, H.length ≤ i) ∧ Fr [] H H1 := by
  obtain ⟨B, e1⟩ := h.2.2 H .refl
  have bl : bor 9 H (fzl t 1 ci l) = some (fzl true 1 ci l, []) := bor_fzl (d := 8) (fun _ => rfl) l
  obtain ⟨d, w, R, S, H1, a1, a2, a3, a4, a5, ⟨m, b1, b2, b3, b4⟩, a6, a7⟩ := fresh_pair goodParser goodActionS (f := f) (args := [.agg c, fzl t 1 ci l]) (xs := [.agg (mParser true p), fzl true 1 ci l]) (H := H) (x := (parsed2M p l).1) (y := (parsed2M p l).2) (by rw [bors_cons, e1, bors_cons, bl]; rfl) (hf p hm l hl H.length)
  exact ⟨d, w, H1, R, S, a1, a2, a3, a5, fun i hi => by have := b1 i hi; omega, fun i hi => by have := b2 i hi; omega, a6⟩
theorem var_p {H : Heap} {c : List GV} {p : ParserT} (h : LP H c p) : ∃ H', kstore 4 (H ++ [zPars]) (.ptr H.length 0 4) (.agg c) = some H' ∧ Fr [] H H' ∧ H'[H.length]? = some c ∧ ∀ H'', Fr [] H' H'' → kloadA 4 H'' (.ptr H.length 0 4) = some (.agg c) :=
  ⟨H ++ [c], var_at (n := 4) (z := zPars) rfl h.1 h.2.1, .app, by simp, fun H'' f => kloadA_at (n := 4) (f.blk (by simp) no_nil) h.1⟩
theorem kal {Q : Type} {H : Heap} {K : GV → Heap → Option Q} : kalloc [.int .i64 0, .nils, .int .i64 0, .nils] H K = K (.ptr H.length 0 4) (H ++ [zPars]) := rfl
theorem parsed_parts {q : ParserT} {xs : List Int} (h : (parsed2M q xs).1.1 ≠ 0) (k : Nat) :
    parserB (parsed2M q xs).1 = true ∧ parsed2M (parsed2M q (xs.take k)).1 (xs.drop k) = ((parsed2M q xs).1, (parsed2M (parsed2M q (xs.take k)).1 (xs.drop k)).2) ∧ (parsed2M q xs).2 = (parsed2M q (xs.take k)).2 ++ (parsed2M (parsed2M q (xs.take k)).1 (xs.drop k)).2 := by
  unfold parsed2M at h
  split at h
  case isFalse => exact absurd rfl h
  rename_i hl
  unfold parsedM at h
  split at h
  case isFalse => exact absurd rfl h
  rename_i hb
  have hb' := hb
  rw [Bool.and_eq_true] at hb
  obtain ⟨hp, hr⟩ := hb
  have e1 : parsed2M q xs = runM xs q := by unfold parsed2M parsedM; rw [if_pos hl, if_pos hb']
  have ht : (xs.take k).all runeB = true := by rw [List.all_eq_true] at hr ⊢; exact fun x hx => hr x (List.mem_of_mem_take hx)
  have hd : (xs.drop k).all runeB = true := by rw [List.all_eq_true] at hr ⊢; exact fun x hx => hr x (List.mem_of_mem_drop hx)
  have e2 : parsed2M q (xs.take k) = runM (xs.take k) q := by unfold parsed2M parsedM; rw [if_pos (by rw [List.length_take]; omega), if_pos (by rw [hp, ht]; rfl)]
  have hp2 := runM_ok (xs.take k) hp ht
  have e3 : parsed2M (runM (xs.take k) q).1 (xs.drop k) = runM (xs.drop k) (runM (xs.take k) q).1 := by unfold parsed2M parsedM; rw [if_pos (by rw [List.length_drop]; omega), if_pos (by rw [hp2, hd]; rfl)]
  have e4 := runM_append (xs.take k) (xs.drop k) q
  rw [List.take_append_drop] at e4
  rw [e1, e2, e3]
  refine ⟨runM_ok xs hp hr, ?_, ?_⟩
  · rw [e4]
  · rw [e4]
end Go.Proofs.Ytlbnioapepelnaa.G

namespace Go.Proofs.Ytlbnioapepelnaa.G
open Go.RowKit
noncomputable section
variable {R : Type} (k : Nat) (σ : GS) (h : Heap)
namespace S.laws_FnParsed
noncomputable def c0 := bodyOf Try.f13
noncomputable def c1 := cR c0
noncomputable def c2 := cR c1
noncomputable def c3 := cR c2
noncomputable def c4 := cR c3
noncomputable def c5 := cR c4
noncomputable def c6 := cR c5
noncomputable def c7 := cR c6
noncomputable def c8 := cR c7
noncomputable def c9 := cR c8
noncomputable def c10 := cR c9
noncomputable def c11 := cR c10
noncomputable def c12 := cR c11
noncomputable def c13 := cR c12
noncomputable def c14 := cR c13
noncomputable def c15 := cR c14
@[simp] def n15 {R : Type} (k : Nat) (G : KT1 R) (v2 : GV) (h : Heap) := G .ret v2 h
theorem n15_eq (G : KT1 R) : KC k 152 c15 σ h (Q1 G 2) = n15 k G (σ 2) h := by kernel_rfl
noncomputable def c16 := cL c14
noncomputable def o16 : Array Oper := cO c16
@[simp] def g16_4 {R : Type} (k : Nat) (G : KT1 R) (v148 v150 : GV) (h : Heap) := (kpick v148 v150 (.bool false)).bind fun v151 => G .nrm v151 h
theorem g16_4_eq (G : KT1 R) : kgroups PP cfg NN HH 152 o16 [(none, [15, 16])] σ h (fun σ h => G .nrm (σ 2) h) = W2 (g16_4 k G) 148 150 σ h := by kernel_rfl
@[simp] def g16_3 (G : KT1 R) (v9 v148 : GV) (h : Heap) := bif tr true v148 then (kloadA 4 h v9).bind fun v149 => (kN NN fn.impl_ParserOk [v149] h).bind fun v150 => g16_4 k G v148 v150 h else g16_4 k G v148 .un h
theorem g16_3_eq (G : KT1 R) : kgroups PP cfg NN HH 152 o16 [(some (12, true), [13, 14]), (none, [15, 16])] σ h (fun σ h => G .nrm (σ 2) h) = W2 (g16_3 k G) 9 148 σ h := (kgroups_cons (fun σ h => g16_4_eq k σ h G)).trans (by kernel_rfl)
@[simp] def g16_2 (G : KT1 R) (v9 v139 v146 : GV) (h : Heap) := (kpick v139 v146 (.bool false)).bind fun v147 => g16_3 k G v9 v147 h
theorem g16_2_eq (G : KT1 R) : kgroups PP cfg NN HH 152 o16 [(none, [11, 12]), (some (12, true), [13, 14]), (none, [15, 16])] σ h (fun σ h => G .nrm (σ 2) h) = W3 (g16_2 k G) 9 139 146 σ h := (kgroups_cons (fun σ h => g16_3_eq k σ h G)).trans (by kernel_rfl)
@[simp] def g16_1 (G : KT1 R) (v9 v10 v17 v19 v139 : GV) (h : Heap) := bif tr true v139 then (kapp [(.int .i64 0), (.int .i64 0), .nils, (.int .i64 0), .nils] 5 72 .emp v17 h).bind fun r => kr r fun v142 h => (kapp [(.int .i64 0), (.int .i64 0), .nils, (.int .i64 0), .nils] 5 72 v142 v19 h).bind fun r => kr r fun v144 h => (kN NN fn.laws_likeActions [v144, v10] h).bind fun v146 => g16_2 k G v9 v139 v146 h else g16_2 k G v9 v139 .un h
theorem g16_1_eq (G : KT1 R) : kgroups PP cfg NN HH 152 o16 [(some (3, true), [4, 5, 6, 7, 8, 9, 10]), (none, [11, 12]), (some (12, true), [13, 14]), (none, [15, 16])] σ h (fun σ h => G .nrm (σ 2) h) = W5 (g16_1 k G) 9 10 17 19 139 σ h := (kgroups_cons (fun σ h => g16_2_eq k σ h G)).trans (by kernel_rfl)
@[simp] def g16_0 (G : KT1 R) (v9 v10 v17 v18 v19 : GV) (h : Heap) := (kloadA 4 h v18).bind fun v136 => (kloadA 4 h v9).bind fun v137 => (kN NN fn.laws_likeParser [v136, v137] h).bind fun v138 => g16_1 k G v9 v10 v17 v19 v138 h
theorem g16_0_eq (G : KT1 R) : kgroups PP cfg NN HH 152 o16 [(none, [0, 1, 2, 3]), (some (3, true), [4, 5, 6, 7, 8, 9, 10]), (none, [11, 12]), (some (12, true), [13, 14]), (none, [15, 16])] σ h (fun σ h => G .nrm (σ 2) h) = W5 (g16_0 k G) 9 10 17 18 19 σ h := (kgroups_cons (fun σ h => g16_1_eq k σ h G)).trans (by kernel_rfl)
@[simp] def n16 (G : KT1 R) (v9 v10 v17 v18 v19 : GV) (h : Heap) := g16_0 k G v9 v10 v17 v18 v19 h
theorem n16_eq (G : KT1 R) : KC k 152 c16 σ h (Q1 G 2) = W5 (n16 k G) 9 10 17 18 19 σ h := (kregion_eq (id := 22) (draw := false) (ops := o16) (gs := [(none, [0, 1, 2, 3]), (some (3, true), [4, 5, 6, 7, 8, 9, 10]), (none, [11, 12]), (some (12, true), [13, 14]), (none, [15, 16])]) (by kernel_rfl) (by kernel_rfl) (by kernel_rfl)).trans (g16_0_eq k σ h G)
@[simp] def n14 (G : KT1 R) (v9 v10 v17 v18 v19 : GV) (h : Heap) := n16 k (fun x v2 h => kx x (n15 k G v2 h) (G x v2 h)) v9 v10 v17 v18 v19 h
theorem n14_eq (G : KT1 R) : KC k 152 c14 σ h (Q1 G 2) = W5 (n14 k G) 9 10 17 18 19 σ h := (kseq (b := c15) rfl (fun σ h => n15_eq k σ h G)).trans (n16_eq k σ h (fun x v2 h => kx x (n15 k G v2 h) (G x v2 h)))
noncomputable def c17 := cL c13
@[simp] def n13 (G : KT1 R) (v2 v8 v9 v10 v15 v16 v17 : GV) (h : Heap) := (kloadA 4 h v16).bind fun v129 => (ksl 1 v8 (some v15) none none).bind fun v132 => (kF false HH fn.impl_Parsed [v129, v132] h).bind fun r => kr r fun v133 h => (kxt 0 v133).bind fun v134 => (kxt 1 v133).bind fun v135 => kalloc [(.int .i64 0), .nils, (.int .i64 0), .nils] h fun v18 h => (kstore 4 h v18 v134).bind fun h => n14 k G v9 v10 v17 v18 v135 h
theorem n13_eq (G : KT1 R) : KC k 152 c13 σ h (Q1 G 2) = W7 (n13 k G) 2 8 9 10 15 16 17 σ h := (kseq (a := c17) (b := c14) rfl (fun σ h => n14_eq k σ h G)).trans (by kernel_rfl)
noncomputable def c18 := cL c12
@[simp] def n12 (G : KT1 R) (v2 v7 v8 v9 v10 v15 : GV) (h : Heap) := (kloadA 4 h v7).bind fun v121 => (ksl 1 v8 none (some v15) none).bind fun v124 => (kF false HH fn.impl_Parsed [v121, v124] h).bind fun r => kr r fun v125 h => (kxt 0 v125).bind fun v126 => (kxt 1 v125).bind fun v127 => kalloc [(.int .i64 0), .nils, (.int .i64 0), .nils] h fun v16 h => (kstore 4 h v16 v126).bind fun h => n13 k G v2 v8 v9 v10 v15 v16 v127 h
theorem n12_eq (G : KT1 R) : KC k 152 c12 σ h (Q1 G 2) = W6 (n12 k G) 2 7 8 9 10 15 σ h := (kseq (a := c18) (b := c13) rfl (fun σ h => n13_eq k σ h G)).trans (by kernel_rfl)
noncomputable def c19 := cL c11
@[simp] def n11 (G : KT1 R) (v0 v2 v7 v8 v9 v10 : GV) (h : Heap) := (klen v8).bind fun v117 => (kbin .add v117 (.int .i64 1)).bind fun v118 => (kN NN fn.laws_pick [v0, (.int .i64 1), v118] h).bind fun v119 => n12 k G v2 v7 v8 v9 v10 v119 h
theorem n11_eq (G : KT1 R) : KC k 152 c11 σ h (Q1 G 2) = W6 (n11 k G) 0 2 7 8 9 10 σ h := (kseq (a := c19) (b := c12) rfl (fun σ h => n12_eq k σ h G)).trans (by kernel_rfl)
noncomputable def c20 := cL c10
noncomputable def c21 := cR c20
@[simp] def n21 {R : Type} (k : Nat) (G : KT6 R) (v0 v2 v7 v8 v9 v10 v114 : GV) (h : Heap) := kcond v114 (G .ret v0 (.bool true) v7 v8 v9 v10 h) (G .nrm v0 v2 v7 v8 v9 v10 h)
theorem n21_eq (G : KT6 R) : KC k 152 c21 σ h (Q6 G 0 2 7 8 9 10) = W7 (n21 k G) 0 2 7 8 9 10 114 σ h := by kernel_rfl
noncomputable def c22 := cL c20
noncomputable def o22 : Array Oper := cO c22
@[simp] def g22_2 {R : Type} (k : Nat) (G : KT7 R) (v0 v2 v7 v8 v9 v10 v110 v113 : GV) (h : Heap) := (kpick v110 (.bool true) v113).bind fun v114 => G .nrm v0 v2 v7 v8 v9 v10 v114 h
theorem g22_2_eq (G : KT7 R) : kgroups PP cfg NN HH 152 o22 [(none, [7])] σ h (fun σ h => G .nrm (σ 0) (σ 2) (σ 7) (σ 8) (σ 9) (σ 10) (σ 114) h) = W8 (g22_2 k G) 0 2 7 8 9 10 110 113 σ h := by kernel_rfl
@[simp] def g22_1 (G : KT7 R) (v0 v2 v7 v8 v9 v10 v110 : GV) (h : Heap) := bif tr false v110 then (klen v8).bind fun v112 => (kbin .gtr v112 (.int .i64 1000)).bind fun v113 => g22_2 k G v0 v2 v7 v8 v9 v10 v110 v113 h else g22_2 k G v0 v2 v7 v8 v9 v10 v110 .un h
theorem g22_1_eq (G : KT7 R) : kgroups PP cfg NN HH 152 o22 [(some (3, false), [4, 5, 6]), (none, [7])] σ h (fun σ h => G .nrm (σ 0) (σ 2) (σ 7) (σ 8) (σ 9) (σ 10) (σ 114) h) = W7 (g22_1 k G) 0 2 7 8 9 10 110 σ h := (kgroups_cons (fun σ h => g22_2_eq k σ h G)).trans (by kernel_rfl)
@[simp] def g22_0 (G : KT7 R) (v0 v2 v7 v8 v9 v10 : GV) (h : Heap) := (kfa 0 v9).bind fun v107 => (kload1 h v107).bind fun v108 => (kbin .eql v108 (.int .i64 0)).bind fun v109 => g22_1 k G v0 v2 v7 v8 v9 v10 v109 h
theorem g22_0_eq (G : KT7 R) : kgroups PP cfg NN HH 152 o22 [(none, [0, 1, 2, 3]), (some (3, false), [4, 5, 6]), (none, [7])] σ h (fun σ h => G .nrm (σ 0) (σ 2) (σ 7) (σ 8) (σ 9) (σ 10) (σ 114) h) = W6 (g22_0 k G) 0 2 7 8 9 10 σ h := (kgroups_cons (fun σ h => g22_1_eq k σ h G)).trans (by kernel_rfl)
@[simp] def n22 (G : KT7 R) (v0 v2 v7 v8 v9 v10 : GV) (h : Heap) := g22_0 k G v0 v2 v7 v8 v9 v10 h
theorem n22_eq (G : KT7 R) : KC k 152 c22 σ h (Q7 G 0 2 7 8 9 10 114) = W6 (n22 k G) 0 2 7 8 9 10 σ h := (kregion_eq (id := 17) (draw := false) (ops := o22) (gs := [(none, [0, 1, 2, 3]), (some (3, false), [4, 5, 6]), (none, [7])]) (by kernel_rfl) (by kernel_rfl) (by kernel_rfl)).trans (g22_0_eq k σ h G)
@[simp] def n20 (G : KT6 R) (v0 v2 v7 v8 v9 v10 : GV) (h : Heap) := n22 k (fun x v0 v2 v7 v8 v9 v10 v114 h => kx x (n21 k G v0 v2 v7 v8 v9 v10 v114 h) (G x v0 v2 v7 v8 v9 v10 h)) v0 v2 v7 v8 v9 v10 h
theorem n20_eq (G : KT6 R) : KC k 152 c20 σ h (Q6 G 0 2 7 8 9 10) = W6 (n20 k G) 0 2 7 8 9 10 σ h := (kseq (b := c21) rfl (fun σ h => n21_eq k σ h G)).trans (n22_eq k σ h (fun x v0 v2 v7 v8 v9 v10 v114 h => kx x (n21 k G v0 v2 v7 v8 v9 v10 v114 h) (G x v0 v2 v7 v8 v9 v10 h)))
@[simp] def n10 (G : KT1 R) (v0 v2 v7 v8 v9 v10 : GV) (h : Heap) := n20 k (fun x v0 v2 v7 v8 v9 v10 h => kx x (n11 k G v0 v2 v7 v8 v9 v10 h) (G x v2 h)) v0 v2 v7 v8 v9 v10 h
theorem n10_eq (G : KT1 R) : KC k 152 c10 σ h (Q1 G 2) = W6 (n10 k G) 0 2 7 8 9 10 σ h := (kseq (b := c11) rfl (fun σ h => n11_eq k σ h G)).trans (n20_eq k σ h (fun x v0 v2 v7 v8 v9 v10 h => kx x (n11 k G v0 v2 v7 v8 v9 v10 h) (G x v2 h)))
noncomputable def c23 := cL c9
noncomputable def c24 := cR c23
@[simp] def n24 {R : Type} (k : Nat) (G : KT6 R) (v0 v2 v7 v8 v9 v10 v106 : GV) (h : Heap) := kcond v106 (G .ret v0 (.bool false) v7 v8 v9 v10 h) (G .nrm v0 v2 v7 v8 v9 v10 h)
theorem n24_eq (G : KT6 R) : KC k 152 c24 σ h (Q6 G 0 2 7 8 9 10) = W7 (n24 k G) 0 2 7 8 9 10 106 σ h := by kernel_rfl
noncomputable def c25 := cL c23
noncomputable def o25 : Array Oper := cO c25
@[simp] def g25_2 {R : Type} (k : Nat) (G : KT7 R) (v0 v2 v7 v8 v9 v10 v102 v105 : GV) (h : Heap) := (kpick v102 (.bool true) v105).bind fun v106 => G .nrm v0 v2 v7 v8 v9 v10 v106 h
theorem g25_2_eq (G : KT7 R) : kgroups PP cfg NN HH 152 o25 [(none, [7])] σ h (fun σ h => G .nrm (σ 0) (σ 2) (σ 7) (σ 8) (σ 9) (σ 10) (σ 106) h) = W8 (g25_2 k G) 0 2 7 8 9 10 102 105 σ h := by kernel_rfl
@[simp] def g25_1 (G : KT7 R) (v0 v2 v6 v7 v8 v9 v10 v102 : GV) (h : Heap) := bif tr false v102 then (klen v6).bind fun v104 => (kbin .gtr v104 (.int .i64 1)).bind fun v105 => g25_2 k G v0 v2 v7 v8 v9 v10 v102 v105 h else g25_2 k G v0 v2 v7 v8 v9 v10 v102 .un h
theorem g25_1_eq (G : KT7 R) : kgroups PP cfg NN HH 152 o25 [(some (3, false), [4, 5, 6]), (none, [7])] σ h (fun σ h => G .nrm (σ 0) (σ 2) (σ 7) (σ 8) (σ 9) (σ 10) (σ 106) h) = W8 (g25_1 k G) 0 2 6 7 8 9 10 102 σ h := (kgroups_cons (fun σ h => g25_2_eq k σ h G)).trans (by kernel_rfl)
@[simp] def g25_0 (G : KT7 R) (v0 v2 v5 v6 v7 v8 v9 v10 : GV) (h : Heap) := (kloadA 4 h v5).bind fun v99 => (kN NN fn.impl_ParserOk [v99] h).bind fun v100 => (kun .not v100).bind fun v101 => g25_1 k G v0 v2 v6 v7 v8 v9 v10 v101 h
theorem g25_0_eq (G : KT7 R) : kgroups PP cfg NN HH 152 o25 [(none, [0, 1, 2, 3]), (some (3, false), [4, 5, 6]), (none, [7])] σ h (fun σ h => G .nrm (σ 0) (σ 2) (σ 7) (σ 8) (σ 9) (σ 10) (σ 106) h) = W8 (g25_0 k G) 0 2 5 6 7 8 9 10 σ h := (kgroups_cons (fun σ h => g25_1_eq k σ h G)).trans (by kernel_rfl)
@[simp] def n25 (G : KT7 R) (v0 v2 v5 v6 v7 v8 v9 v10 : GV) (h : Heap) := g25_0 k G v0 v2 v5 v6 v7 v8 v9 v10 h
theorem n25_eq (G : KT7 R) : KC k 152 c25 σ h (Q7 G 0 2 7 8 9 10 106) = W8 (n25 k G) 0 2 5 6 7 8 9 10 σ h := (kregion_eq (id := 15) (draw := false) (ops := o25) (gs := [(none, [0, 1, 2, 3]), (some (3, false), [4, 5, 6]), (none, [7])]) (by kernel_rfl) (by kernel_rfl) (by kernel_rfl)).trans (g25_0_eq k σ h G)
@[simp] def n23 (G : KT6 R) (v0 v2 v5 v6 v7 v8 v9 v10 : GV) (h : Heap) := n25 k (fun x v0 v2 v7 v8 v9 v10 v106 h => kx x (n24 k G v0 v2 v7 v8 v9 v10 v106 h) (G x v0 v2 v7 v8 v9 v10 h)) v0 v2 v5 v6 v7 v8 v9 v10 h
theorem n23_eq (G : KT6 R) : KC k 152 c23 σ h (Q6 G 0 2 7 8 9 10) = W8 (n23 k G) 0 2 5 6 7 8 9 10 σ h := (kseq (b := c24) rfl (fun σ h => n24_eq k σ h G)).trans (n25_eq k σ h (fun x v0 v2 v7 v8 v9 v10 v106 h => kx x (n24 k G v0 v2 v7 v8 v9 v10 v106 h) (G x v0 v2 v7 v8 v9 v10 h)))
@[simp] def n9 (G : KT1 R) (v0 v2 v5 v6 v7 v8 v9 v10 : GV) (h : Heap) := n23 k (fun x v0 v2 v7 v8 v9 v10 h => kx x (n10 k G v0 v2 v7 v8 v9 v10 h) (G x v2 h)) v0 v2 v5 v6 v7 v8 v9 v10 h
theorem n9_eq (G : KT1 R) : KC k 152 c9 σ h (Q1 G 2) = W8 (n9 k G) 0 2 5 6 7 8 9 10 σ h := (kseq (b := c10) rfl (fun σ h => n10_eq k σ h G)).trans (n23_eq k σ h (fun x v0 v2 v7 v8 v9 v10 h => kx x (n10 k G v0 v2 v7 v8 v9 v10 h) (G x v2 h)))
noncomputable def c26 := cL c8
noncomputable def c27 := cR c26
noncomputable def c28 := cL c27
noncomputable def c29 := cR c28
@[simp] def n29 {R : Type} (k : Nat) (G : KT8 R) (v0 v2 v5 v6 v7 v8 v9 v10 : GV) (h : Heap) := G .ret v0 v2 v5 v6 v7 v8 v9 v10 h
theorem n29_eq (G : KT8 R) : KC k 152 c29 σ h (Q8 G 0 2 5 6 7 8 9 10) = W8 (n29 k G) 0 2 5 6 7 8 9 10 σ h := by kernel_rfl
noncomputable def c30 := cL c28
noncomputable def o30 : Array Oper := cO c30
@[simp] def g30_2 {R : Type} (k : Nat) (G : KT8 R) (v0 v5 v6 v7 v8 v9 v10 v94 v97 : GV) (h : Heap) := (kpick v94 v97 (.bool false)).bind fun v98 => G .nrm v0 v98 v5 v6 v7 v8 v9 v10 h
theorem g30_2_eq (G : KT8 R) : kgroups PP cfg NN HH 152 o30 [(none, [7, 8])] σ h (fun σ h => G .nrm (σ 0) (σ 2) (σ 5) (σ 6) (σ 7) (σ 8) (σ 9) (σ 10) h) = W9 (g30_2 k G) 0 5 6 7 8 9 10 94 97 σ h := by kernel_rfl
@[simp] def g30_1 (G : KT8 R) (v0 v5 v6 v7 v8 v9 v10 v94 : GV) (h : Heap) := bif tr true v94 then (klen v6).bind fun v96 => (kbin .eql v96 (.int .i64 0)).bind fun v97 => g30_2 k G v0 v5 v6 v7 v8 v9 v10 v94 v97 h else g30_2 k G v0 v5 v6 v7 v8 v9 v10 v94 .un h
theorem g30_1_eq (G : KT8 R) : kgroups PP cfg NN HH 152 o30 [(some (3, true), [4, 5, 6]), (none, [7, 8])] σ h (fun σ h => G .nrm (σ 0) (σ 2) (σ 5) (σ 6) (σ 7) (σ 8) (σ 9) (σ 10) h) = W8 (g30_1 k G) 0 5 6 7 8 9 10 94 σ h := (kgroups_cons (fun σ h => g30_2_eq k σ h G)).trans (by kernel_rfl)
@[simp] def g30_0 (G : KT8 R) (v0 v5 v6 v7 v8 v9 v10 : GV) (h : Heap) := (kloadA 4 h v5).bind fun v91 => (gfill (fun i => [(0, 1), (1, 1), (2, 1), (3, 1)][i]?) [(.int .i64 0), .nils, (.int .i64 0), .nils] []).bind fun c => kagg c h fun v92 h => (kN NN fn.laws_likeParser [v91, v92] h).bind fun v93 => g30_1 k G v0 v5 v6 v7 v8 v9 v10 v93 h
theorem g30_0_eq (G : KT8 R) : kgroups PP cfg NN HH 152 o30 [(none, [0, 1, 2, 3]), (some (3, true), [4, 5, 6]), (none, [7, 8])] σ h (fun σ h => G .nrm (σ 0) (σ 2) (σ 5) (σ 6) (σ 7) (σ 8) (σ 9) (σ 10) h) = W7 (g30_0 k G) 0 5 6 7 8 9 10 σ h := (kgroups_cons (fun σ h => g30_1_eq k σ h G)).trans (by kernel_rfl)
@[simp] def n30 (G : KT8 R) (v0 v5 v6 v7 v8 v9 v10 : GV) (h : Heap) := g30_0 k G v0 v5 v6 v7 v8 v9 v10 h
theorem n30_eq (G : KT8 R) : KC k 152 c30 σ h (Q8 G 0 2 5 6 7 8 9 10) = W7 (n30 k G) 0 5 6 7 8 9 10 σ h := (kregion_eq (id := 14) (draw := false) (ops := o30) (gs := [(none, [0, 1, 2, 3]), (some (3, true), [4, 5, 6]), (none, [7, 8])]) (by kernel_rfl) (by kernel_rfl) (by kernel_rfl)).trans (g30_0_eq k σ h G)
@[simp] def n28 (G : KT8 R) (v0 v5 v6 v7 v8 v9 v10 : GV) (h : Heap) := n30 k (fun x v0 v2 v5 v6 v7 v8 v9 v10 h => kx x (n29 k G v0 v2 v5 v6 v7 v8 v9 v10 h) (G x v0 v2 v5 v6 v7 v8 v9 v10 h)) v0 v5 v6 v7 v8 v9 v10 h
theorem n28_eq (G : KT8 R) : KC k 152 c28 σ h (Q8 G 0 2 5 6 7 8 9 10) = W7 (n28 k G) 0 5 6 7 8 9 10 σ h := (kseq (b := c29) rfl (fun σ h => n29_eq k σ h G)).trans (n30_eq k σ h (fun x v0 v2 v5 v6 v7 v8 v9 v10 h => kx x (n29 k G v0 v2 v5 v6 v7 v8 v9 v10 h) (G x v0 v2 v5 v6 v7 v8 v9 v10 h)))
noncomputable def c31 := cR c27
@[simp] def n31 {R : Type} (k : Nat) (G : KT8 R) (v0 v2 v5 v6 v7 v8 v9 v10 : GV) (h : Heap) := G .nrm v0 v2 v5 v6 v7 v8 v9 v10 h
theorem n31_eq (G : KT8 R) : KC k 152 c31 σ h (Q8 G 0 2 5 6 7 8 9 10) = W8 (n31 k G) 0 2 5 6 7 8 9 10 σ h := by kernel_rfl
@[simp] def n27 (G : KT8 R) (v0 v2 v5 v6 v7 v8 v9 v10 v90 : GV) (h : Heap) := kcond v90 (n28 k G v0 v5 v6 v7 v8 v9 v10 h) (n31 k G v0 v2 v5 v6 v7 v8 v9 v10 h)
theorem n27_eq (G : KT8 R) : KC k 152 c27 σ h (Q8 G 0 2 5 6 7 8 9 10) = W9 (n27 k G) 0 2 5 6 7 8 9 10 90 σ h := (kcond_eq (a := c28) (b := c31) rfl (by rfl)).trans (congr (congrArg (kcond (σ 90)) (n28_eq k σ h G)) (n31_eq k σ h G))
noncomputable def c32 := cL c26
noncomputable def o32 : Array Oper := cO c32
@[simp] def g32_2 {R : Type} (k : Nat) (G : KT9 R) (v0 v2 v5 v6 v7 v8 v9 v10 v86 v89 : GV) (h : Heap) := (kpick v86 (.bool true) v89).bind fun v90 => G .nrm v0 v2 v5 v6 v7 v8 v9 v10 v90 h
theorem g32_2_eq (G : KT9 R) : kgroups PP cfg NN HH 152 o32 [(none, [7])] σ h (fun σ h => G .nrm (σ 0) (σ 2) (σ 5) (σ 6) (σ 7) (σ 8) (σ 9) (σ 10) (σ 90) h) = W10 (g32_2 k G) 0 2 5 6 7 8 9 10 86 89 σ h := by kernel_rfl
@[simp] def g32_1 (G : KT9 R) (v0 v2 v4 v5 v6 v7 v8 v9 v10 v86 : GV) (h : Heap) := bif tr false v86 then (kN NN fn.spec_RuneOk [v4] h).bind fun v88 => (kun .not v88).bind fun v89 => g32_2 k G v0 v2 v5 v6 v7 v8 v9 v10 v86 v89 h else g32_2 k G v0 v2 v5 v6 v7 v8 v9 v10 v86 .un h
theorem g32_1_eq (G : KT9 R) : kgroups PP cfg NN HH 152 o32 [(some (3, false), [4, 5, 6]), (none, [7])] σ h (fun σ h => G .nrm (σ 0) (σ 2) (σ 5) (σ 6) (σ 7) (σ 8) (σ 9) (σ 10) (σ 90) h) = W10 (g32_1 k G) 0 2 4 5 6 7 8 9 10 86 σ h := (kgroups_cons (fun σ h => g32_2_eq k σ h G)).trans (by kernel_rfl)
@[simp] def g32_0 (G : KT9 R) (v0 v2 v3 v4 v5 v6 v7 v8 v9 v10 : GV) (h : Heap) := (kloadA 4 h v3).bind fun v83 => (kN NN fn.spec_ParserOk [v83] h).bind fun v84 => (kun .not v84).bind fun v85 => g32_1 k G v0 v2 v4 v5 v6 v7 v8 v9 v10 v85 h
theorem g32_0_eq (G : KT9 R) : kgroups PP cfg NN HH 152 o32 [(none, [0, 1, 2, 3]), (some (3, false), [4, 5, 6]), (none, [7])] σ h (fun σ h => G .nrm (σ 0) (σ 2) (σ 5) (σ 6) (σ 7) (σ 8) (σ 9) (σ 10) (σ 90) h) = W10 (g32_0 k G) 0 2 3 4 5 6 7 8 9 10 σ h := (kgroups_cons (fun σ h => g32_1_eq k σ h G)).trans (by kernel_rfl)
@[simp] def n32 (G : KT9 R) (v0 v2 v3 v4 v5 v6 v7 v8 v9 v10 : GV) (h : Heap) := g32_0 k G v0 v2 v3 v4 v5 v6 v7 v8 v9 v10 h
theorem n32_eq (G : KT9 R) : KC k 152 c32 σ h (Q9 G 0 2 5 6 7 8 9 10 90) = W10 (n32 k G) 0 2 3 4 5 6 7 8 9 10 σ h := (kregion_eq (id := 13) (draw := false) (ops := o32) (gs := [(none, [0, 1, 2, 3]), (some (3, false), [4, 5, 6]), (none, [7])]) (by kernel_rfl) (by kernel_rfl) (by kernel_rfl)).trans (g32_0_eq k σ h G)
@[simp] def n26 (G : KT8 R) (v0 v2 v3 v4 v5 v6 v7 v8 v9 v10 : GV) (h : Heap) := n32 k (fun x v0 v2 v5 v6 v7 v8 v9 v10 v90 h => kx x (n27 k G v0 v2 v5 v6 v7 v8 v9 v10 v90 h) (G x v0 v2 v5 v6 v7 v8 v9 v10 h)) v0 v2 v3 v4 v5 v6 v7 v8 v9 v10 h
theorem n26_eq (G : KT8 R) : KC k 152 c26 σ h (Q8 G 0 2 5 6 7 8 9 10) = W10 (n26 k G) 0 2 3 4 5 6 7 8 9 10 σ h := (kseq (b := c27) rfl (fun σ h => n27_eq k σ h G)).trans (n32_eq k σ h (fun x v0 v2 v5 v6 v7 v8 v9 v10 v90 h => kx x (n27 k G v0 v2 v5 v6 v7 v8 v9 v10 v90 h) (G x v0 v2 v5 v6 v7 v8 v9 v10 h)))
@[simp] def n8 (G : KT1 R) (v0 v2 v3 v4 v5 v6 v7 v8 v9 v10 : GV) (h : Heap) := n26 k (fun x v0 v2 v5 v6 v7 v8 v9 v10 h => kx x (n9 k G v0 v2 v5 v6 v7 v8 v9 v10 h) (G x v2 h)) v0 v2 v3 v4 v5 v6 v7 v8 v9 v10 h
theorem n8_eq (G : KT1 R) : KC k 152 c8 σ h (Q1 G 2) = W10 (n8 k G) 0 2 3 4 5 6 7 8 9 10 σ h := (kseq (b := c9) rfl (fun σ h => n9_eq k σ h G)).trans (n26_eq k σ h (fun x v0 v2 v5 v6 v7 v8 v9 v10 h => kx x (n9 k G v0 v2 v5 v6 v7 v8 v9 v10 h) (G x v2 h)))
noncomputable def c33 := cL c7
noncomputable def c34 := cR c33
noncomputable def c35 := cR c34
@[simp] def n35 {R : Type} (k : Nat) (G : KT10 R) (v0 v2 v3 v4 v5 v6 v7 v8 v9 v10 v82 : GV) (h : Heap) := kcond v82 (G .ret v0 (.bool false) v3 v4 v5 v6 v7 v8 v9 v10 h) (G .nrm v0 v2 v3 v4 v5 v6 v7 v8 v9 v10 h)
theorem n35_eq (G : KT10 R) : KC k 152 c35 σ h (Q10 G 0 2 3 4 5 6 7 8 9 10) = W11 (n35 k G) 0 2 3 4 5 6 7 8 9 10 82 σ h := by kernel_rfl
noncomputable def c36 := cL c34
noncomputable def o36 : Array Oper := cO c36
@[simp] def g36_2 {R : Type} (k : Nat) (G : KT11 R) (v0 v2 v3 v4 v5 v6 v7 v8 v9 v10 v77 v81 : GV) (h : Heap) := (kpick v77 (.bool true) v81).bind fun v82 => G .nrm v0 v2 v3 v4 v5 v6 v7 v8 v9 v10 v82 h
theorem g36_2_eq (G : KT11 R) : kgroups PP cfg NN HH 152 o36 [(none, [9])] σ h (fun σ h => G .nrm (σ 0) (σ 2) (σ 3) (σ 4) (σ 5) (σ 6) (σ 7) (σ 8) (σ 9) (σ 10) (σ 82) h) = W12 (g36_2 k G) 0 2 3 4 5 6 7 8 9 10 77 81 σ h := by kernel_rfl
@[simp] def g36_1 (G : KT11 R) (v0 v2 v3 v4 v5 v6 v7 v8 v9 v10 v14 v77 : GV) (h : Heap) := bif tr false v77 then (kN NN fn.laws_likeActions [v10, v14] h).bind fun v80 => (kun .not v80).bind fun v81 => g36_2 k G v0 v2 v3 v4 v5 v6 v7 v8 v9 v10 v77 v81 h else g36_2 k G v0 v2 v3 v4 v5 v6 v7 v8 v9 v10 v77 .un h
theorem g36_1_eq (G : KT11 R) : kgroups PP cfg NN HH 152 o36 [(some (4, false), [5, 6, 7, 8]), (none, [9])] σ h (fun σ h => G .nrm (σ 0) (σ 2) (σ 3) (σ 4) (σ 5) (σ 6) (σ 7) (σ 8) (σ 9) (σ 10) (σ 82) h) = W12 (g36_1 k G) 0 2 3 4 5 6 7 8 9 10 14 77 σ h := (kgroups_cons (fun σ h => g36_2_eq k σ h G)).trans (by kernel_rfl)
@[simp] def g36_0 (G : KT11 R) (v0 v2 v3 v4 v5 v6 v7 v8 v9 v10 v13 v14 : GV) (h : Heap) := (kloadA 4 h v9).bind fun v73 => (kloadA 4 h v13).bind fun v74 => (kN NN fn.laws_likeParser [v73, v74] h).bind fun v75 => (kun .not v75).bind fun v76 => g36_1 k G v0 v2 v3 v4 v5 v6 v7 v8 v9 v10 v14 v76 h
theorem g36_0_eq (G : KT11 R) : kgroups PP cfg NN HH 152 o36 [(none, [0, 1, 2, 3, 4]), (some (4, false), [5, 6, 7, 8]), (none, [9])] σ h (fun σ h => G .nrm (σ 0) (σ 2) (σ 3) (σ 4) (σ 5) (σ 6) (σ 7) (σ 8) (σ 9) (σ 10) (σ 82) h) = W12 (g36_0 k G) 0 2 3 4 5 6 7 8 9 10 13 14 σ h := (kgroups_cons (fun σ h => g36_1_eq k σ h G)).trans (by kernel_rfl)
@[simp] def n36 (G : KT11 R) (v0 v2 v3 v4 v5 v6 v7 v8 v9 v10 v13 v14 : GV) (h : Heap) := g36_0 k G v0 v2 v3 v4 v5 v6 v7 v8 v9 v10 v13 v14 h
theorem n36_eq (G : KT11 R) : KC k 152 c36 σ h (Q11 G 0 2 3 4 5 6 7 8 9 10 82) = W12 (n36 k G) 0 2 3 4 5 6 7 8 9 10 13 14 σ h := (kregion_eq (id := 11) (draw := false) (ops := o36) (gs := [(none, [0, 1, 2, 3, 4]), (some (4, false), [5, 6, 7, 8]), (none, [9])]) (by kernel_rfl) (by kernel_rfl) (by kernel_rfl)).trans (g36_0_eq k σ h G)
@[simp] def n34 (G : KT10 R) (v0 v2 v3 v4 v5 v6 v7 v8 v9 v10 v13 v14 : GV) (h : Heap) := n36 k (fun x v0 v2 v3 v4 v5 v6 v7 v8 v9 v10 v82 h => kx x (n35 k G v0 v2 v3 v4 v5 v6 v7 v8 v9 v10 v82 h) (G x v0 v2 v3 v4 v5 v6 v7 v8 v9 v10 h)) v0 v2 v3 v4 v5 v6 v7 v8 v9 v10 v13 v14 h
theorem n34_eq (G : KT10 R) : KC k 152 c34 σ h (Q10 G 0 2 3 4 5 6 7 8 9 10) = W12 (n34 k G) 0 2 3 4 5 6 7 8 9 10 13 14 σ h := (kseq (b := c35) rfl (fun σ h => n35_eq k σ h G)).trans (n36_eq k σ h (fun x v0 v2 v3 v4 v5 v6 v7 v8 v9 v10 v82 h => kx x (n35 k G v0 v2 v3 v4 v5 v6 v7 v8 v9 v10 v82 h) (G x v0 v2 v3 v4 v5 v6 v7 v8 v9 v10 h)))
noncomputable def c37 := cL c33
@[simp] def n33 (G : KT10 R) (v0 v2 v3 v4 v5 v6 v7 v8 v9 v10 : GV) (h : Heap) := (kloadA 4 h v7).bind fun v68 => (kF false HH fn.spec_Parsed [v68, v8] h).bind fun r => kr r fun v70 h => (kxt 0 v70).bind fun v71 => (kxt 1 v70).bind fun v72 => kalloc [(.int .i64 0), .nils, (.int .i64 0), .nils] h fun v13 h => (kstore 4 h v13 v71).bind fun h => n34 k G v0 v2 v3 v4 v5 v6 v7 v8 v9 v10 v13 v72 h
theorem n33_eq (G : KT10 R) : KC k 152 c33 σ h (Q10 G 0 2 3 4 5 6 7 8 9 10) = W10 (n33 k G) 0 2 3 4 5 6 7 8 9 10 σ h := (kseq (a := c37) (b := c34) rfl (fun σ h => n34_eq k σ h G)).trans (by kernel_rfl)
@[simp] def n7 (G : KT1 R) (v0 v2 v3 v4 v5 v6 v7 v8 v9 v10 : GV) (h : Heap) := n33 k (fun x v0 v2 v3 v4 v5 v6 v7 v8 v9 v10 h => kx x (n8 k G v0 v2 v3 v4 v5 v6 v7 v8 v9 v10 h) (G x v2 h)) v0 v2 v3 v4 v5 v6 v7 v8 v9 v10 h
theorem n7_eq (G : KT1 R) : KC k 152 c7 σ h (Q1 G 2) = W10 (n7 k G) 0 2 3 4 5 6 7 8 9 10 σ h := (kseq (b := c8) rfl (fun σ h => n8_eq k σ h G)).trans (n33_eq k σ h (fun x v0 v2 v3 v4 v5 v6 v7 v8 v9 v10 h => kx x (n8 k G v0 v2 v3 v4 v5 v6 v7 v8 v9 v10 h) (G x v2 h)))
noncomputable def c38 := cL c6
noncomputable def c39 := cR c38
noncomputable def c40 := cR c39
@[simp] def n40 {R : Type} (k : Nat) (G : KT10 R) (v0 v2 v3 v4 v5 v6 v7 v8 v9 v10 v66 : GV) (h : Heap) := kcond v66 (G .ret v0 (.bool false) v3 v4 v5 v6 v7 v8 v9 v10 h) (G .nrm v0 v2 v3 v4 v5 v6 v7 v8 v9 v10 h)
theorem n40_eq (G : KT10 R) : KC k 152 c40 σ h (Q10 G 0 2 3 4 5 6 7 8 9 10) = W11 (n40 k G) 0 2 3 4 5 6 7 8 9 10 66 σ h := by kernel_rfl
noncomputable def c41 := cL c39
noncomputable def o41 : Array Oper := cO c41
@[simp] def g41_4 {R : Type} (k : Nat) (G : KT11 R) (v0 v2 v3 v4 v5 v6 v7 v8 v9 v10 v60 v65 : GV) (h : Heap) := (kpick v60 (.bool true) v65).bind fun v66 => G .nrm v0 v2 v3 v4 v5 v6 v7 v8 v9 v10 v66 h
theorem g41_4_eq (G : KT11 R) : kgroups PP cfg NN HH 152 o41 [(none, [16])] σ h (fun σ h => G .nrm (σ 0) (σ 2) (σ 3) (σ 4) (σ 5) (σ 6) (σ 7) (σ 8) (σ 9) (σ 10) (σ 66) h) = W12 (g41_4 k G) 0 2 3 4 5 6 7 8 9 10 60 65 σ h := by kernel_rfl
@[simp] def g41_3 (G : KT11 R) (v0 v2 v3 v4 v5 v6 v7 v8 v9 v10 v60 : GV) (h : Heap) := bif tr false v60 then (kloadA 4 h v3).bind fun v61 => (kN NN fn.impl_ParserOk [v61] h).bind fun v62 => (kloadA 4 h v3).bind fun v63 => (kN NN fn.spec_ParserOk [v63] h).bind fun v64 => (keqB .neq v62 v64).bind fun v65 => g41_4 k G v0 v2 v3 v4 v5 v6 v7 v8 v9 v10 v60 v65 h else g41_4 k G v0 v2 v3 v4 v5 v6 v7 v8 v9 v10 v60 .un h
theorem g41_3_eq (G : KT11 R) : kgroups PP cfg NN HH 152 o41 [(some (10, false), [11, 12, 13, 14, 15]), (none, [16])] σ h (fun σ h => G .nrm (σ 0) (σ 2) (σ 3) (σ 4) (σ 5) (σ 6) (σ 7) (σ 8) (σ 9) (σ 10) (σ 66) h) = W11 (g41_3 k G) 0 2 3 4 5 6 7 8 9 10 60 σ h := (kgroups_cons (fun σ h => g41_4_eq k σ h G)).trans (by kernel_rfl)
@[simp] def g41_2 (G : KT11 R) (v0 v2 v3 v4 v5 v6 v7 v8 v9 v10 v54 v58 : GV) (h : Heap) := (kpick v54 (.bool true) v58).bind fun v59 => g41_3 k G v0 v2 v3 v4 v5 v6 v7 v8 v9 v10 v59 h
theorem g41_2_eq (G : KT11 R) : kgroups PP cfg NN HH 152 o41 [(none, [9, 10]), (some (10, false), [11, 12, 13, 14, 15]), (none, [16])] σ h (fun σ h => G .nrm (σ 0) (σ 2) (σ 3) (σ 4) (σ 5) (σ 6) (σ 7) (σ 8) (σ 9) (σ 10) (σ 66) h) = W12 (g41_2 k G) 0 2 3 4 5 6 7 8 9 10 54 58 σ h := (kgroups_cons (fun σ h => g41_3_eq k σ h G)).trans (by kernel_rfl)
@[simp] def g41_1 (G : KT11 R) (v0 v2 v3 v4 v5 v6 v7 v8 v9 v10 v12 v54 : GV) (h : Heap) := bif tr false v54 then (kN NN fn.laws_likeActions [v6, v12] h).bind fun v57 => (kun .not v57).bind fun v58 => g41_2 k G v0 v2 v3 v4 v5 v6 v7 v8 v9 v10 v54 v58 h else g41_2 k G v0 v2 v3 v4 v5 v6 v7 v8 v9 v10 v54 .un h
theorem g41_1_eq (G : KT11 R) : kgroups PP cfg NN HH 152 o41 [(some (4, false), [5, 6, 7, 8]), (none, [9, 10]), (some (10, false), [11, 12, 13, 14, 15]), (none, [16])] σ h (fun σ h => G .nrm (σ 0) (σ 2) (σ 3) (σ 4) (σ 5) (σ 6) (σ 7) (σ 8) (σ 9) (σ 10) (σ 66) h) = W12 (g41_1 k G) 0 2 3 4 5 6 7 8 9 10 12 54 σ h := (kgroups_cons (fun σ h => g41_2_eq k σ h G)).trans (by kernel_rfl)
@[simp] def g41_0 (G : KT11 R) (v0 v2 v3 v4 v5 v6 v7 v8 v9 v10 v11 v12 : GV) (h : Heap) := (kloadA 4 h v5).bind fun v50 => (kloadA 4 h v11).bind fun v51 => (kN NN fn.laws_likeParser [v50, v51] h).bind fun v52 => (kun .not v52).bind fun v53 => g41_1 k G v0 v2 v3 v4 v5 v6 v7 v8 v9 v10 v12 v53 h
theorem g41_0_eq (G : KT11 R) : kgroups PP cfg NN HH 152 o41 [(none, [0, 1, 2, 3, 4]), (some (4, false), [5, 6, 7, 8]), (none, [9, 10]), (some (10, false), [11, 12, 13, 14, 15]), (none, [16])] σ h (fun σ h => G .nrm (σ 0) (σ 2) (σ 3) (σ 4) (σ 5) (σ 6) (σ 7) (σ 8) (σ 9) (σ 10) (σ 66) h) = W12 (g41_0 k G) 0 2 3 4 5 6 7 8 9 10 11 12 σ h := (kgroups_cons (fun σ h => g41_1_eq k σ h G)).trans (by kernel_rfl)
@[simp] def n41 (G : KT11 R) (v0 v2 v3 v4 v5 v6 v7 v8 v9 v10 v11 v12 : GV) (h : Heap) := g41_0 k G v0 v2 v3 v4 v5 v6 v7 v8 v9 v10 v11 v12 h
theorem n41_eq (G : KT11 R) : KC k 152 c41 σ h (Q11 G 0 2 3 4 5 6 7 8 9 10 66) = W12 (n41 k G) 0 2 3 4 5 6 7 8 9 10 11 12 σ h := (kregion_eq (id := 8) (draw := true) (ops := o41) (gs := [(none, [0, 1, 2, 3, 4]), (some (4, false), [5, 6, 7, 8]), (none, [9, 10]), (some (10, false), [11, 12, 13, 14, 15]), (none, [16])]) (by kernel_rfl) (by kernel_rfl) (by kernel_rfl)).trans (g41_0_eq k σ h G)
@[simp] def n39 (G : KT10 R) (v0 v2 v3 v4 v5 v6 v7 v8 v9 v10 v11 v12 : GV) (h : Heap) := n41 k (fun x v0 v2 v3 v4 v5 v6 v7 v8 v9 v10 v66 h => kx x (n40 k G v0 v2 v3 v4 v5 v6 v7 v8 v9 v10 v66 h) (G x v0 v2 v3 v4 v5 v6 v7 v8 v9 v10 h)) v0 v2 v3 v4 v5 v6 v7 v8 v9 v10 v11 v12 h
theorem n39_eq (G : KT10 R) : KC k 152 c39 σ h (Q10 G 0 2 3 4 5 6 7 8 9 10) = W12 (n39 k G) 0 2 3 4 5 6 7 8 9 10 11 12 σ h := (kseq (b := c40) rfl (fun σ h => n40_eq k σ h G)).trans (n41_eq k σ h (fun x v0 v2 v3 v4 v5 v6 v7 v8 v9 v10 v66 h => kx x (n40 k G v0 v2 v3 v4 v5 v6 v7 v8 v9 v10 v66 h) (G x v0 v2 v3 v4 v5 v6 v7 v8 v9 v10 h)))
noncomputable def c42 := cL c38
@[simp] def n38 (G : KT10 R) (v0 v2 v3 v4 v5 v6 v7 v8 v9 v10 : GV) (h : Heap) := (kloadA 4 h v3).bind fun v45 => (kN NN fn.spec_Step [v45, v4] h).bind fun v47 => (kxt 0 v47).bind fun v48 => (kxt 1 v47).bind fun v49 => kalloc [(.int .i64 0), .nils, (.int .i64 0), .nils] h fun v11 h => (kstore 4 h v11 v48).bind fun h => n39 k G v0 v2 v3 v4 v5 v6 v7 v8 v9 v10 v11 v49 h
theorem n38_eq (G : KT10 R) : KC k 152 c38 σ h (Q10 G 0 2 3 4 5 6 7 8 9 10) = W10 (n38 k G) 0 2 3 4 5 6 7 8 9 10 σ h := (kseq (a := c42) (b := c39) rfl (fun σ h => n39_eq k σ h G)).trans (by kernel_rfl)
@[simp] def n6 (G : KT1 R) (v0 v2 v3 v4 v5 v6 v7 v8 v9 v10 : GV) (h : Heap) := n38 k (fun x v0 v2 v3 v4 v5 v6 v7 v8 v9 v10 h => kx x (n7 k G v0 v2 v3 v4 v5 v6 v7 v8 v9 v10 h) (G x v2 h)) v0 v2 v3 v4 v5 v6 v7 v8 v9 v10 h
theorem n6_eq (G : KT1 R) : KC k 152 c6 σ h (Q1 G 2) = W10 (n6 k G) 0 2 3 4 5 6 7 8 9 10 σ h := (kseq (b := c7) rfl (fun σ h => n7_eq k σ h G)).trans (n38_eq k σ h (fun x v0 v2 v3 v4 v5 v6 v7 v8 v9 v10 h => kx x (n7 k G v0 v2 v3 v4 v5 v6 v7 v8 v9 v10 h) (G x v2 h)))
noncomputable def c43 := cL c5
@[simp] def n5 (G : KT1 R) (v0 v2 v3 v4 v5 v6 v7 v8 : GV) (h : Heap) := (kloadA 4 h v7).bind fun v39 => (kF false HH fn.impl_Parsed [v39, v8] h).bind fun r => kr r fun v41 h => (kxt 0 v41).bind fun v42 => (kxt 1 v41).bind fun v43 => kalloc [(.int .i64 0), .nils, (.int .i64 0), .nils] h fun v9 h => (kstore 4 h v9 v42).bind fun h => n6 k G v0 v2 v3 v4 v5 v6 v7 v8 v9 v43 h
theorem n5_eq (G : KT1 R) : KC k 152 c5 σ h (Q1 G 2) = W8 (n5 k G) 0 2 3 4 5 6 7 8 σ h := (kseq (a := c43) (b := c6) rfl (fun σ h => n6_eq k σ h G)).trans (by kernel_rfl)
noncomputable def c44 := cL c4
@[simp] def n4 (G : KT1 R) (v0 v2 v3 v4 v5 v6 : GV) (h : Heap) := (kN NN fn.spec_DrawParsed [v0] h).bind fun v35 => (kxt 0 v35).bind fun v36 => (kxt 1 v35).bind fun v37 => kalloc [(.int .i64 0), .nils, (.int .i64 0), .nils] h fun v7 h => (kstore 4 h v7 v36).bind fun h => n5 k G v0 v2 v3 v4 v5 v6 v7 v37 h
theorem n4_eq (G : KT1 R) : KC k 152 c4 σ h (Q1 G 2) = W6 (n4 k G) 0 2 3 4 5 6 σ h := (kseq (a := c44) (b := c5) rfl (fun σ h => n5_eq k σ h G)).trans (by kernel_rfl)
noncomputable def c45 := cL c3
@[simp] def n3 (G : KT1 R) (v0 v2 v3 v4 : GV) (h : Heap) := (kloadA 4 h v3).bind fun v28 => (kF false HH fn.impl_Step [v28, v4] h).bind fun r => kr r fun v30 h => (kxt 0 v30).bind fun v31 => (kxt 1 v30).bind fun v32 => kalloc [(.int .i64 0), .nils, (.int .i64 0), .nils] h fun v5 h => (kstore 4 h v5 v31).bind fun h => n4 k G v0 v2 v3 v4 v5 v32 h
theorem n3_eq (G : KT1 R) : KC k 152 c3 σ h (Q1 G 2) = W4 (n3 k G) 0 2 3 4 σ h := (kseq (a := c45) (b := c4) rfl (fun σ h => n4_eq k σ h G)).trans (by kernel_rfl)
noncomputable def c46 := cL c2
@[simp] def n2 (G : KT1 R) (v0 v2 : GV) (h : Heap) := (kN NN fn.spec_DrawStep [v0] h).bind fun v24 => (kxt 0 v24).bind fun v25 => (kxt 1 v24).bind fun v26 => kalloc [(.int .i64 0), .nils, (.int .i64 0), .nils] h fun v3 h => (kstore 4 h v3 v25).bind fun h => n3 k G v0 v2 v3 v26 h
theorem n2_eq (G : KT1 R) : KC k 152 c2 σ h (Q1 G 2) = W2 (n2 k G) 0 2 σ h := (kseq (a := c46) (b := c3) rfl (fun σ h => n3_eq k σ h G)).trans (by kernel_rfl)
noncomputable def c47 := cL c1
@[simp] def n1 (G : KT1 R) (v0 v2 : GV) (h : Heap) := (kN NN fn.laws_big [v0] h).bind fun v21 => kcond v21 (G .ret (.bool true) h) (n2 k G v0 v2 h)
theorem n1_eq (G : KT1 R) : KC k 152 c1 σ h (Q1 G 2) = W2 (n1 k G) 0 2 σ h := (kseq (a := c47) (b := c2) rfl (fun σ h => n2_eq k σ h G)).trans (by kernel_rfl)
noncomputable def c48 := cL c0
@[simp] def n0 (G : KT1 R) (v0 : GV) (h : Heap) := n1 k G v0 (.bool false) h
theorem n0_eq (G : KT1 R) : KC k 152 c0 σ h (Q1 G 2) = n0 k G (σ 0) h := (kseq (a := c48) (b := c1) rfl (fun σ h => n1_eq k σ h G)).trans (by kernel_rfl)
def run {R : Type} (k : Nat) (a0 : GV) (h : Heap) (fin : GV → Heap → Option R) : Option R := n0 k (fun x v2 h => kend x (fin v2 h)) a0 h
theorem gives {k : Nat} {a0 : GV} {v : GV} (e : run k a0 [] finN = some v) : NN fn.laws_FnParsed [a0] = some v := nω_of (by kernel_rfl) (((kfun_eq (nt := 152) (c := c0) (show PP.funcs[fn.laws_FnParsed]? = some Try.f13 by kernel_rfl) (by kernel_rfl) (by kernel_rfl) (fun x σ h => by cases x <;> kernel_rfl)).trans (n0_eq k _ [] _)).trans e)
end S.laws_FnParsed
end
end Go.Proofs.Ytlbnioapepelnaa.G

namespace Go.Proofs.Ytlbnioapepelnaa.G
open Go.RowKit
theorem kxt_0 {a b : GV} : kxt 0 (.tup [a, b]) = some a := rfl
theorem kxt_1 {a b : GV} : kxt 1 (.tup [a, b]) = some b := rfl
theorem ksl_drop {t : Bool} {xs : List Int} {m : Nat} (hm : m ≤ xs.length) : ksl 1 (fzl t 1 ci xs) (some (.int .i64 (m : Int))) none none = some (fzl t 1 ci (xs.drop m)) := by
  cases xs with
  | nil =>
    have : m = 0 := by simpa using hm
    subst this
    simp [fzl, mt, ksl, kslice, gslice, gopt, gint]
  | cons x xs =>
    have hm' : (m : Int) ≤ (xs.length : Int) + 1 := by simp at hm; omega
    have h2 : ((x :: xs).flatMap ci).drop m = ((x :: xs).drop m).flatMap ci := by
      have := drop_flat (mk := ci) (es := 1) (fun _ => rfl) (x :: xs) m
      rwa [Nat.mul_one] at this
    have hl : ((x :: xs).flatMap ci).length = xs.length + 1 := by have := len_flat (mk := ci) (es := 1) (fun _ => rfl) (x :: xs); simpa using this
    have key : ksl 1 (fzl t 1 ci (x :: xs)) (some (.int .i64 (m : Int))) none none = if ((xs.length + 1 : Nat) : Int) = (m : Int) then some mt else some (.fz t (xs.length + 1 - m) 1 ((((x :: xs).flatMap ci).drop m).take (xs.length + 1 - m))) := by
      simp [fzl, ksl, kslice, gslice, gopt, gint, hm']
    rw [key]
    by_cases h0 : xs.length + 1 = m
    · have e : (x :: xs).drop m = [] := by rw [← h0]; simp
      rw [e, if_pos (by omega)]; rfl
    · have hne : 0 < ((x :: xs).drop m).length := by rw [List.length_drop]; simp at hm ⊢; omega
      rw [if_neg (by omega), fzl_ne hne, List.length_drop, h2, List.take_of_length_le]
      · rfl
      · rw [← h2, List.length_drop, hl]; exact Nat.le_refl _
theorem head_p {H : Heap} {c : List GV} {p : ParserT} {R : List Nat} (h : rParser H c p R) : c[0]? = some (.int .i64 p.1) := by
  obtain ⟨x1, y1, S1, S2, e1, e2, ⟨rfl, rfl⟩, _⟩ := h
  rw [e1]; rfl
theorem FnParsed_row (a0 : List (Int)) (i0 : inSl (fun x1 : Int => (Lit.int .u8 x1).wf = true) a0) : NN fn.laws_FnParsed [(fzl true 1 (fun x1 : Int => [GV.int .u8 x1]) a0)] = some (.bool true) := by
  obtain ⟨code, e0, _⟩ := code_of i0
  rw [e0]
  have big : ∀ H, kN NN fn.laws_big [fzl true 1 cy code] H = _ := fun H => kN_at bors_cy (laws_big_spec code)
  by_cases hb : 4096 < code.length
  · rw [decide_eq_true hb] at big
    apply S.laws_FnParsed.gives (k := 0)
    generalize fzl true 1 cy code = C at *
    simp [S.laws_FnParsed.run, big, -kN_eq]
  rw [decide_eq_false hb] at big
  have hl : code.length ≤ 1048576 := by omega
  obtain ⟨p, r, d1, sp⟩ := spec_DrawStep_spec code hl
  have D1 : ∀ H, kN NN fn.spec_DrawStep [fzl true 1 cy code] H = _ := fun H => kN_at bors_cy d1
  obtain ⟨q, xs, d2, sq, hx⟩ := spec_DrawParsed_spec code hl
  have D2 : ∀ H, kN NN fn.spec_DrawParsed [fzl true 1 cy code] H = _ := fun H => kN_at bors_cy d2
  have op := sp.ok
  have oq := sq.ok
  have okx : okInt64S xs := by unfold okInt64S; omega
  obtain ⟨ox, oa⟩ := stepL_ok p op r
  obtain ⟨oy, ob⟩ := parsed2M_ok q oq xs okx
  -- the parser p and Step
  obtain ⟨H1, v1, f1, x1, a1⟩ := var_p (LP.told [] p)
  have bP : ∀ H, bors H [.agg (mParser false p), .int .i64 r] = some [.agg (mParser true p), .int .i64 r] := fun H => by simp
  obtain ⟨c5, w6, R5, S6, H2, e2, r5, s6, _, _, _, f2, _⟩ := fresh_pair goodParser goodActionS (f := fn.impl_Step) (H := H1) (x := (stepL p r).1) (y := (stepL p r).2) (bP H1) (impl_StepL p op r H1.length)
  obtain ⟨H3, v3, f3, x3, a3⟩ := var_p (LP.of r5)
  -- the parser q and Parsed
  obtain ⟨H4, v4, f4, x4, a4⟩ := var_p (LP.told H3 q)
  obtain ⟨c9, w10, H5, R9, S10, e5, r9, s10, n10, b9, b10, f5⟩ := call_parsed fn.impl_Parsed impl_Parsed_spec (LP.told H4 q) oq false xs (by omega)
  obtain ⟨H6, v6, f6, x6, a6⟩ := var_p (LP.of r9)
  -- Step and Parsed of the reference
  have e7 : ∀ H, kN NN fn.spec_Step [.agg (mParser false p), .int .i64 r] H = _ := fun H => kN_at (bP H) (spec_StepL p op r)
  obtain ⟨H7, v7, f7, x7, a7⟩ := var_p (LP.told H6 (stepL p r).1)
  have g27 := f3.trans (f4.trans (f5.trans (f6.trans f7)))
  have l1 := like_p ((LP.of r5).grow g27) (LP.told H7 _) ox
  have l2 := like_a ((LA.of s6).grow g27) (LA.told H7 _) oa
  have k1 := ok_i (LP.told H7 p) op
  have k2 := ok_s (LP.told H7 p) op
  obtain ⟨c13, w14, H8, R13, S14, e8, r13, s14, n14, b13, b14, f8⟩ := call_parsed fn.spec_Parsed (fun p hm l hl b => spec_Parsed_spec p hm l hl b) (LP.told H7 q) oq false xs (by omega)
  obtain ⟨H9, v9, f9, x9, a9⟩ := var_p (LP.of r13)
  have g59 := f6.trans (f7.trans (f8.trans f9))
  have l3 := like_p ((LP.of r9).grow g59) ((LP.of r13).grow f9) oy
  have l4 := like_a ((LA.of s10).grow g59) ((LA.of s14).grow f9) ob
  -- what is loaded later
  have ld3 := a1 H2 f2
  have q1 := fun {H} f => a1 H f
  have A1 : kloadA 4 H1 (.ptr 0 0 4) = some (.agg (mParser false p)) := a1 H1 .refl
  have A1' : kloadA 4 H6 (.ptr 0 0 4) = some (.agg (mParser false p)) := a1 H6 (f2.trans (f3.trans (f4.trans (f5.trans f6))))
  have A1'' : kloadA 4 H7 (.ptr 0 0 4) = some (.agg (mParser false p)) := a1 H7 (f2.trans (f3.trans (f4.trans (f5.trans (f6.trans f7)))))
  have A1_9 : kloadA 4 H9 (.ptr 0 0 4) = some (.agg (mParser false p)) := a1 H9 (f2.trans (f3.trans (f4.trans (f5.trans (f6.trans (f7.trans (f8.trans f9)))))))
  have A3 := a3 H7 (f4.trans (f5.trans (f6.trans f7)))
  have A3_9 := a3 H9 (f4.trans (f5.trans (f6.trans (f7.trans (f8.trans f9)))))
  have A4 := a4 H4 .refl
  have A4_7 := a4 H7 (f5.trans (f6.trans f7))
  have A4_9 := a4 H9 (f5.trans (f6.trans (f7.trans (f8.trans f9))))
  have A6_9 := a6 H9 (f7.trans (f8.trans f9))
  have A7 := a7 H7 .refl
  have A9 := a9 H9 .refl
  have k3 := ok_s (LP.told H9 p) op
  have k4 := k_srune r H9
  have k5 := ok_i ((LP.of r5).grow (g27.trans (f8.trans f9))) ox
  have kl6 : klen w6 = some (.int .i64 ((stepL p r).2.length : Nat)) := s6.len
  have klL : klen (fzl false 1 ci xs) = some (.int .i64 (xs.length : Nat)) := klen_fzl
  have nb : ∀ b : Bool, keqB .neq (.bool b) (.bool b) = some (.bool false) := fun b => by cases b <;> rfl
  apply S.laws_FnParsed.gives (k := 0)
  obtain ⟨C, hC⟩ : ∃ C, fzl true 1 cy code = C := ⟨_, rfl⟩
  obtain ⟨L, hL⟩ : ∃ L, fzl false 1 ci xs = L := ⟨_, rfl⟩
  obtain ⟨P, hP⟩ : ∃ P, mParser false p = P := ⟨_, rfl⟩
  obtain ⟨Q, hQ⟩ : ∃ Q, mParser false q = Q := ⟨_, rfl⟩
  obtain ⟨X, hX⟩ : ∃ X, mParser false (stepL p r).1 = X := ⟨_, rfl⟩
  obtain ⟨A, hA⟩ : ∃ A, fzl false 5 (mAction false) (stepL p r).2 = A := ⟨_, rfl⟩
  simp only [hC] at big D1 D2
  simp only [hP] at D1 v1 A1 A1' A1'' A1_9 e2 e7 k1 k2 k3
  simp only [hQ, hL] at D2 v4 A4 A4_7 A4_9 e5 e8
  simp only [hX, hA] at e7 v7 A7 l1 l2
  rw [hL] at klL
  rw [hC]
  simp only [List.nil_append, List.length_nil] at v1
  have st1 : ∀ G : KT1 GV, S.laws_FnParsed.n0 0 G C [] = S.laws_FnParsed.n3 0 G C (.bool false) (.ptr 0 0 4) (.int .i64 r) H1 := fun G => by
    simp only [S.laws_FnParsed.n0, S.laws_FnParsed.n1, big, S.laws_FnParsed.n2, D1, Option.bind_some, kcond_bool, cond_false, kxt_0, kxt_1, kal, List.nil_append, List.length_nil, v1]
  have st2 : ∀ G : KT1 GV, S.laws_FnParsed.n3 0 G C (.bool false) (.ptr 0 0 4) (.int .i64 r) H1 = S.laws_FnParsed.n4 0 G C (.bool false) (.ptr 0 0 4) (.int .i64 r) (.ptr H2.length 0 4) w6 H3 := fun G => by
    simp only [S.laws_FnParsed.n3, A1, e2, kr_mk, Option.bind_some, kxt_0, kxt_1, kal, v3]
  have t1 : tr false (.bool false) = true := rfl
  have t2 : tr true (.bool true) = true := rfl
  have t3 : tr false (.bool true) = false := rfl
  have p1 : ∀ y, kpick (.bool false) (.bool true) y = some y := fun _ => rfl
  have p2 : kpick (.bool true) (.bool true) .un = some (.bool true) := rfl
  have p3 : ∀ y, kpick (.bool true) y (.bool false) = some y := fun _ => rfl
  have nt : kun .not (.bool true) = some (.bool false) := rfl
  have nf : kun .not (.bool false) = some (.bool true) := rfl
  have st3 : ∀ G : KT1 GV, S.laws_FnParsed.n4 0 G C (.bool false) (.ptr 0 0 4) (.int .i64 r) (.ptr H2.length 0 4) w6 H3 = S.laws_FnParsed.n5 0 G C (.bool false) (.ptr 0 0 4) (.int .i64 r) (.ptr H2.length 0 4) w6 (.ptr H3.length 0 4) L H4 := fun G => by
    simp only [S.laws_FnParsed.n4, D2, Option.bind_some, kxt_0, kxt_1, kal, v4]
  have st4 : ∀ G : KT1 GV, S.laws_FnParsed.n5 0 G C (.bool false) (.ptr 0 0 4) (.int .i64 r) (.ptr H2.length 0 4) w6 (.ptr H3.length 0 4) L H4 = S.laws_FnParsed.n6 0 G C (.bool false) (.ptr 0 0 4) (.int .i64 r) (.ptr H2.length 0 4) w6 (.ptr H3.length 0 4) L (.ptr H5.length 0 4) w10 H6 := fun G => by
    simp only [S.laws_FnParsed.n5, A4, e5, kr_mk, Option.bind_some, kxt_0, kxt_1, kal, v6]
  have st5 : ∀ G : KT1 GV, S.laws_FnParsed.n6 0 G C (.bool false) (.ptr 0 0 4) (.int .i64 r) (.ptr H2.length 0 4) w6 (.ptr H3.length 0 4) L (.ptr H5.length 0 4) w10 H6 = S.laws_FnParsed.n7 0 G C (.bool false) (.ptr 0 0 4) (.int .i64 r) (.ptr H2.length 0 4) w6 (.ptr H3.length 0 4) L (.ptr H5.length 0 4) w10 H7 := fun G => by
    simp only [S.laws_FnParsed.n6, S.laws_FnParsed.n38, A1', e7, Option.bind_some, kxt_0, kxt_1, kal, v7, S.laws_FnParsed.n39, S.laws_FnParsed.n41, S.laws_FnParsed.g41_0, A3, A7, l1, nt, S.laws_FnParsed.g41_1, t1, cond_true, l2, S.laws_FnParsed.g41_2, p1, S.laws_FnParsed.g41_3, A1'', k1, k2, nb, S.laws_FnParsed.g41_4, kx_nrm, S.laws_FnParsed.n40, kcond_bool, cond_false]
  have st6 : ∀ G : KT1 GV, S.laws_FnParsed.n7 0 G C (.bool false) (.ptr 0 0 4) (.int .i64 r) (.ptr H2.length 0 4) w6 (.ptr H3.length 0 4) L (.ptr H5.length 0 4) w10 H7 = S.laws_FnParsed.n8 0 G C (.bool false) (.ptr 0 0 4) (.int .i64 r) (.ptr H2.length 0 4) w6 (.ptr H3.length 0 4) L (.ptr H5.length 0 4) w10 H9 := fun G => by
    simp only [S.laws_FnParsed.n7, S.laws_FnParsed.n33, A4_7, e8, kr_mk, Option.bind_some, kxt_0, kxt_1, kal, v9, S.laws_FnParsed.n34, S.laws_FnParsed.n36, S.laws_FnParsed.g36_0, A6_9, A9, l3, nt, S.laws_FnParsed.g36_1, t1, cond_true, l4, S.laws_FnParsed.g36_2, p1, kx_nrm, S.laws_FnParsed.n35, kcond_bool, cond_false]
  have run : ∀ {v : GV}, S.laws_FnParsed.n8 0 (fun x v2 h => kend x (finN v2 h)) C (.bool false) (.ptr 0 0 4) (.int .i64 r) (.ptr H2.length 0 4) w6 (.ptr H3.length 0 4) L (.ptr H5.length 0 4) w10 H9 = some v → S.laws_FnParsed.run 0 C [] finN = some v := fun {v} e => by
    rw [S.laws_FnParsed.run, st1, st2, st3, st4, st5, st6, e]
  apply run
  have retT : ∀ H : Heap, kend .ret (finN (.bool true) H) = some (.bool true) := fun H => rfl
  -- is p right, is r a rune?
  have cF : (GV.bool false).cells = [.bool false] := rfl
  have zero : ∀ {x : ParserT × List ActionT}, stepL p r = ((0, [], 0, []), []) → ∀ (v90 : GV), v90 = .bool true → ∀ G : KT8 GV, S.laws_FnParsed.n27 0 G C (.bool false) (.ptr H2.length 0 4) w6 (.ptr H3.length 0 4) L (.ptr H5.length 0 4) w10 v90 H9 = G .ret C (.bool true) (.ptr H2.length 0 4) w6 (.ptr H3.length 0 4) L (.ptr H5.length 0 4) w10 H9 := fun {x} hz v90 hv G => by
    have gz : gfill (fun i => ([(0, 1), (1, 1), (2, 1), (3, 1)] : List (Nat × Nat))[i]?) [.int .i64 0, .nils, .int .i64 0, .nils] [] = some zPars := rfl
    have e1 : (stepL p r).1 = (0, [], 0, []) := by rw [hz]
    have lp1 : LP H9 c5 (0, [], 0, []) := by rw [← e1]; exact (LP.of r5).grow (g27.trans (f8.trans f9))
    have lz := like_p lp1 (LP.of (parser_rel (s := 0) (m := 0) (H := H9) no_ints no_ints)) (by rw [← e1]; exact ox)
    have kl0 : klen w6 = some (.int .i64 0) := by rw [kl6, hz]; rfl
    have e0 : kbin .eql (.int .i64 0) (.int .i64 0) = some (.bool true) := rfl
    rw [hv]
    simp only [S.laws_FnParsed.n27, kcond_bool, cond_true, S.laws_FnParsed.n28, S.laws_FnParsed.n30, S.laws_FnParsed.g30_0, A3_9, gz, Option.bind_some, kagg_eq, lz, S.laws_FnParsed.g30_1, t2, kl0, e0, S.laws_FnParsed.g30_2, p3, kx_nrm, S.laws_FnParsed.n29]
  by_cases hp : parserB p = true
  case neg =>
    have hp' : parserB p = false := by simpa using hp
    have hz : stepL p r = ((0, [], 0, []), []) := by unfold stepL parsedM; rw [hp']; rfl
    rw [hp'] at k3
    simp only [S.laws_FnParsed.n8, S.laws_FnParsed.n26, S.laws_FnParsed.n32, S.laws_FnParsed.g32_0, A1_9, k3, nf, Option.bind_some, S.laws_FnParsed.g32_1, t3, cond_false, S.laws_FnParsed.g32_2, p2, kx_nrm]
    rw [zero (x := ((0, [], 0, []), [])) hz _ rfl]
    exact retT H9
  by_cases hr : runeB r = true
  case neg =>
    have hr' : runeB r = false := by simpa using hr
    have hz : stepL p r = ((0, [], 0, []), []) := by unfold stepL parsedM; simp [hr']
    rw [hp] at k3
    rw [hr'] at k4
    simp only [S.laws_FnParsed.n8, S.laws_FnParsed.n26, S.laws_FnParsed.n32, S.laws_FnParsed.g32_0, A1_9, k3, nt, Option.bind_some, S.laws_FnParsed.g32_1, t1, cond_true, k4, nf, S.laws_FnParsed.g32_2, p1, kx_nrm]
    rw [zero (x := ((0, [], 0, []), [])) hz _ rfl]
    exact retT H9
  have es : stepL p r = stepM p r := by unfold stepL parsedM; simp [hp, hr, runM]
  have okX : parserB (stepL p r).1 = true := by rw [es]; exact stepM_ok hp hr
  have one : (stepL p r).2.length ≤ 1 := by rw [es]; exact stepM_one p r
  rw [hp] at k3
  rw [hr] at k4
  rw [okX] at k5
  have g1 : kbin .gtr (.int .i64 ((stepL p r).2.length : Nat)) (.int .i64 1) = some (.bool false) := by rw [kbin_gtr, decide_eq_false (by omega)]
  have st8 : ∀ G : KT1 GV, S.laws_FnParsed.n8 0 G C (.bool false) (.ptr 0 0 4) (.int .i64 r) (.ptr H2.length 0 4) w6 (.ptr H3.length 0 4) L (.ptr H5.length 0 4) w10 H9 = S.laws_FnParsed.n10 0 G C (.bool false) (.ptr H3.length 0 4) L (.ptr H5.length 0 4) w10 H9 := fun G => by
    simp only [S.laws_FnParsed.n8, S.laws_FnParsed.n26, S.laws_FnParsed.n32, S.laws_FnParsed.g32_0, A1_9, k3, nt, Option.bind_some, S.laws_FnParsed.g32_1, t1, cond_true, k4, S.laws_FnParsed.g32_2, p1, kx_nrm, S.laws_FnParsed.n27, kcond_bool, cond_false, S.laws_FnParsed.n31, S.laws_FnParsed.n9, S.laws_FnParsed.n23, S.laws_FnParsed.n25, S.laws_FnParsed.g25_0, A3_9, k5, S.laws_FnParsed.g25_1, kl6, g1, S.laws_FnParsed.g25_2, S.laws_FnParsed.n24]
  rw [st8]
  -- the state behind Parsed, the length of the list
  have x9 : H9[H5.length]? = some c9 := (f7.trans (f8.trans f9)).blk x6 no_nil
  have ld9 := kload1_at (o := 0) (tot := 4) x9 (goodParser.len r9)
  rw [head_p r9] at ld9
  by_cases h0 : (parsed2M q xs).1.1 = 0
  · have e0 : kbin .eql (.int .i64 (parsed2M q xs).1.1) (.int .i64 0) = some (.bool true) := by rw [kbin_eql, decide_eq_true h0]
    simp only [S.laws_FnParsed.n10, S.laws_FnParsed.n20, S.laws_FnParsed.n22, S.laws_FnParsed.g22_0, kfa_ptr, Nat.add_zero, ld9, e0, Option.bind_some, S.laws_FnParsed.g22_1, t3, cond_false, S.laws_FnParsed.g22_2, p2, kx_nrm, S.laws_FnParsed.n21, kcond_bool, cond_true, kx_ret]
    exact retT H9
  have e0 : kbin .eql (.int .i64 (parsed2M q xs).1.1) (.int .i64 0) = some (.bool false) := by rw [kbin_eql, decide_eq_false h0]
  by_cases hlong : 1000 < xs.length
  · have g2 : kbin .gtr (.int .i64 (xs.length : Nat)) (.int .i64 1000) = some (.bool true) := by rw [kbin_gtr, decide_eq_true (by omega)]
    simp only [S.laws_FnParsed.n10, S.laws_FnParsed.n20, S.laws_FnParsed.n22, S.laws_FnParsed.g22_0, kfa_ptr, Nat.add_zero, ld9, e0, Option.bind_some, S.laws_FnParsed.g22_1, t1, cond_true, klL, g2, S.laws_FnParsed.g22_2, p1, kx_nrm, S.laws_FnParsed.n21, kcond_bool, kx_ret]
    exact retT H9
  have g2 : kbin .gtr (.int .i64 (xs.length : Nat)) (.int .i64 1000) = some (.bool false) := by rw [kbin_gtr, decide_eq_false (by omega)]
  have ka := kadd1 (n := xs.length) (by omega)
  obtain ⟨y, ye, y0, y1⟩ := laws_pick_spec code hl 1 ((xs.length + 1 : Nat) : Int) (by omega) (by omega)
  obtain ⟨m, rfl⟩ : ∃ m : Nat, y = m := ⟨y.toNat, by omega⟩
  have hm : m ≤ xs.length := by omega
  have kp : kN NN fn.laws_pick [fzl true 1 cy code, .int .i64 1, .int .i64 ((xs.length + 1 : Nat) : Int)] H9 = some (.int .i64 (m : Int)) := kN_at (xs := [fzl true 1 cy code, .int .i64 1, .int .i64 ((xs.length + 1 : Nat) : Int)]) (by rw [bors_cons, bor_cy]; simp) ye
  rw [hC] at kp
  obtain ⟨pb, pe, pl⟩ := parsed_parts h0 m
  -- the two parts
  have ks1 := ksl_fzl (es := 1) (t := false) (mk := ci) (fun _ => rfl) (xs := xs) (n := (m : Int)) (by omega) (by omega)
  rw [Int.toNat_natCast] at ks1
  have ks2 := ksl_drop (t := false) (xs := xs) hm
  have otk : okInt64S (xs.take m) := by unfold okInt64S at okx ⊢; rw [List.length_take]; omega
  obtain ⟨oq1, oa1⟩ := parsed2M_ok q oq (xs.take m) otk
  obtain ⟨c16, w17, H10, R16, S17, e10, r16, s17, n17, b16, b17, f10⟩ := call_parsed fn.impl_Parsed impl_Parsed_spec ((LP.told H3 q).grow (f4.trans (f5.trans (f6.trans (f7.trans (f8.trans f9)))))) oq false (xs.take m) (by rw [List.length_take]; omega)
  obtain ⟨H11, v11, f11, x11, a11⟩ := var_p (LP.of r16)
  obtain ⟨c18, w19, H12, R18, S19, e12, r18, s19, n19, b18, b19, f12⟩ := call_parsed fn.impl_Parsed impl_Parsed_spec ((LP.of r16).grow f11) oq1 false (xs.drop m) (by rw [List.length_drop]; omega)
  obtain ⟨H13, v13, f13, x13, a13⟩ := var_p (LP.of r18)
  rw [pe] at r18
  have f9_13 := f10.trans (f11.trans (f12.trans f13))
  have f5_13 := g59.trans f9_13
  have l5 := like_p ((LP.of r18).grow f13) ((LP.of r9).grow f5_13) oy
  have A4_9' := A4_9
  have A11 := a11 H11 .refl
  have A13 := a13 H13 .refl
  have A6_13 := a6 H13 (f7.trans (f8.trans (f9.trans f9_13)))
  -- the actions, one list behind the other
  have s17' : rActionS H13 [w17] (parsed2M q (xs.take m)).2 S17 := goodActionS.keep s17 (f11.trans (f12.trans f13)) (fun _ _ => no_nil)
  have la := congrArg List.length pl
  rw [List.length_append] at la
  obtain ⟨ob1, _⟩ := ob
  obtain ⟨v14, H14, R14, t14, r14, n14', m14, f14⟩ := app_sls goodAction (by omega) (z := actZ) (b := 72) rfl (by omega) (H := H13) (v := .emp) (xs := []) (R := []) (.inl ⟨rfl, rfl, .inl rfl⟩) List.nodup_nil s17' n17 (fun i hi h => by cases h) (by simp; omega)
  rw [List.nil_append] at r14
  have s19' : rActionS H14 [w19] (parsed2M (parsed2M q (xs.take m)).1 (xs.drop m)).2 S19 := goodActionS.keep s19 (f13.trans f14) (fun _ _ => no_nil)
  have mS17 := goodActionS.mem s17
  have mS19 := goodActionS.mem s19
  have hl1011 := f11.1
  have hl1213 := f13.1
  obtain ⟨v15, H15, R15, t15, r15, n15', m15, f15⟩ := app_sls goodAction (by omega) (z := actZ) (b := 72) rfl (by omega) r14 n14' s19' n19 (fun i hi h => by
    have h1 := b19 i hi
    have h2 := mS19 i hi
    rcases m14 i h with h3 | h3 | h3
    · cases h3
    · have := mS17 i h3; omega
    · omega) (by omega)
  rw [← pl] at r15
  have R14lo : ∀ i ∈ R14, H9.length ≤ i := fun i hi => by
    rcases m14 i hi with h3 | h3 | h3
    · cases h3
    · exact b17 i h3
    · have := f9_13.1; omega
  have m9 := goodParser.mem r9
  have m10 := goodActionS.mem s10
  have h59 := g59.1
  have s10' : rActionS H15 [w10] (parsed2M q xs).2 S10 := goodActionS.keep (goodActionS.keep s10 (f5_13.trans f14) (fun _ _ => no_nil)) f15 (fun i hi h => by have := R14lo i h; have := m10 i hi; omega)
  have r9' : rParser H15 c9 (parsed2M q xs).1 R9 := goodParser.keep (goodParser.keep r9 (f5_13.trans f14) (fun _ _ => no_nil)) f15 (fun i hi h => by have := R14lo i h; have := m9 i hi; omega)
  have l6 := like_a (LA.of r15) (LA.of s10') ⟨ob1, by assumption⟩
  have k6 := ok_i (LP.of r9') oy
  rw [pb] at k6
  have x15 : H15[H5.length]? = some c9 := f15.blk ((f9_13.trans f14).blk x9 no_nil) (fun h => by have := R14lo _ h; have := (List.getElem?_eq_some_iff.1 x6).1; have := (f7.trans (f8.trans f9)).1; omega)
  have A15 := kloadA_at (n := 4) x15 (goodParser.len r9)
  rw [← hL] at klL
  simp only [hQ] at A4_9 e10
  have fin : ∀ G : KT1 GV, S.laws_FnParsed.n10 0 G C (.bool false) (.ptr H3.length 0 4) (fzl false 1 ci xs) (.ptr H5.length 0 4) w10 H9 = G .ret (.bool true) H15 := fun G => by
    simp only [S.laws_FnParsed.n10, S.laws_FnParsed.n20, S.laws_FnParsed.n22, S.laws_FnParsed.g22_0, kfa_ptr, Nat.add_zero, ld9, e0, Option.bind_some, S.laws_FnParsed.g22_1, t1, cond_true, klL, g2, S.laws_FnParsed.g22_2, p1, kx_nrm, S.laws_FnParsed.n21, kcond_bool, cond_false, S.laws_FnParsed.n11, ka, kp, S.laws_FnParsed.n12, A4_9, ks1, e10, kr_mk, kxt_0, kxt_1, kal, v11, S.laws_FnParsed.n13, A11, ks2, e12, v13, S.laws_FnParsed.n14, S.laws_FnParsed.n16, S.laws_FnParsed.g16_0, A13, A6_13, l5, S.laws_FnParsed.g16_1, t2, t14, t15, l6, S.laws_FnParsed.g16_2, p3, S.laws_FnParsed.g16_3, A15, k6, S.laws_FnParsed.g16_4, S.laws_FnParsed.n15]
  rw [← hL, fin]
  exact retT H15
end Go.Proofs.Ytlbnioapepelnaa.G
