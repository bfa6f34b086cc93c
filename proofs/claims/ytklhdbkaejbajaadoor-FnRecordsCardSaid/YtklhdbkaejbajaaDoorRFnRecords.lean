/- FnRecords: the law returns true for every code. -/
import Derived.Test.YtklhdbkaejbajaaDoorTRecs3
namespace Go.Proofs.YtklhdbkaejbajaaDoor.G
open Go.RowKit Go.Lib
set_option linter.unusedVariables false
set_option linter.unusedSimpArgs false

/-! What is drawn. -/
theorem recM_short (t : List UInt8) : (recM t).length ≤ 5100 := by
  by_cases h : t.length ≤ 5000
  · exact (recM_len h).2
  · unfold recM; rw [if_pos (by omega)]; simp
theorem recs_l9 {p : Nat} {code : List UInt8} (hl : code.length ≤ 1048576) (k : Nat) (v2 : GV) : ∀ (n r : Nat), n < r → n ≤ 100 → ∀ (l : List UInt8) (H : Heap), Cur p code H → l.length + 5100 * n ≤ 1000000 →
    ∃ (l' : List UInt8) (H' : Heap), (∀ {Q : Type} (G : KT3 Q), S.spec_DrawRecords.l9 k G r v2 (.ptr p 0 3) (.str (bs l)) (.int .i64 (n : Nat)) H = G (.ext 0) v2 (.ptr p 0 3) (.str (bs l')) H') ∧ l'.length ≤ l.length + 5100 * n ∧ Dr p code H H'
  | 0, r + 1, _, _, l, H, hc, _ => by
    refine ⟨l, H, fun G => ?_, by omega, Dr.refl hc⟩
    generalize GV.str (bs l) = L at *
    simp [S.spec_DrawRecords.l9]
  | n + 1, r + 1, hr, hn, l, H, hc, hx => by
    have gt : kbin .gtr (.int .i64 ((n + 1 : Nat) : Int)) (.int .i64 0) = some (.bool true) := by rw [kbin_gtr, decide_eq_true (by omega)]
    have sb : kbin .sub (.int .i64 ((n + 1 : Nat) : Int)) (.int .i64 1) = some (.int .i64 (n : Nat)) := by rw [kbin_sub, wrap_id (by omega) (by omega)]; congr 2; omega
    have gf : gfill (fun i => some (i, 1)) (zeros [(.str { data := #[] })] 4) [(0, (.str { data := #[97] })), (1, (.str { data := #[98, 99, 10] })), (2, (.str { data := #[] })), (3, (.str { data := #[49, 32, 50, 10] }))] = some [(.str { data := #[97] }), (.str { data := #[98, 99, 10] }), (.str { data := #[] }), (.str { data := #[49, 32, 50, 10] })] := by rfl
    obtain ⟨x, H2, q, g, e2, k1, k2, ⟨s, rfl, hs⟩, d2⟩ := draw_tab hl hc (P := fun g => ∃ s : ByteArray, g = .str s ∧ s.size ≤ 4) (T := [(.str { data := #[97] }), (.str { data := #[98, 99, 10] }), (.str { data := #[] }), (.str { data := #[49, 32, 50, 10] })]) (by
      intro g hg
      simp only [List.mem_cons, List.not_mem_nil, or_false] at hg
      rcases hg with rfl | rfl | rfl | rfl <;> exact ⟨_, rfl, by decide⟩) (n := 4) rfl (by decide) (m := 4) rfl
    obtain ⟨m, rfl⟩ : ∃ l, s = bs l := ⟨_, bs_eta s⟩
    rw [bs_size] at hs
    have rl := recM_short m
    have rc : ∀ H, kN NN fn.spec_Record [.str (bs m)] H = _ := fun H => kN_at (by simp) (spec_Record_spec m (by omega))
    have ad := kadd_bs (a := l) (b := recM m) (by simp only [maxLen]; omega)
    obtain ⟨l', H3, b1, b2, b3⟩ := recs_l9 hl k v2 n r (by omega) (by omega) (l ++ recM m) H2 d2.1 (by rw [List.length_append]; omega)
    refine ⟨l', H3, fun G => ?_, by rw [List.length_append] at b2; omega, d2.trans b3⟩
    rw [← b1 G]
    generalize GV.str (bs (l ++ recM m)) = LM at *
    generalize GV.str (bs (recM m)) = RM at *
    generalize GV.str (bs l) = L at *
    generalize GV.str (bs m) = M at *
    generalize GV.int .i64 ((n + 1 : Nat) : Int) = J' at *
    generalize GV.int .i64 (n : Nat) = J at *
    simp [S.spec_DrawRecords.l9, gt, gf, kbs_at', e2, k1, k2, rc, ad, sb, -kia_sl, -kN_eq]
theorem spec_DrawRecords_spec (code : List UInt8) (hl : code.length ≤ 1048576) : ∃ d : List UInt8, NN fn.spec_DrawRecords [fzl true 1 cy code] = some (.str (bs d)) ∧ d.length ≤ 30000 := by
  obtain ⟨H1, e1, c1⟩ := l1New_nil code hl
  obtain ⟨n, H2, e2, hn, d2⟩ := draw_nat hl c1 (n := 5) (by omega) (m := 5) rfl
  obtain ⟨s, H3, b1, b2, d3⟩ := recs_l9 hl 10 (.str { data := #[] }) n 10 (by omega) (by omega) [] H2 d2.1 (by simp; omega)
  have b1' : ∀ {Q : Type} (G : KT3 Q), S.spec_DrawRecords.l9 10 G 10 (.str { data := #[] }) (.ptr 0 0 3) (.str { data := #[] }) (.int .i64 (n : Nat)) H2 = G (.ext 0) (.str { data := #[] }) (.ptr 0 0 3) (.str (bs s)) H3 := fun G => b1 G
  simp at b2
  obtain ⟨b, H4, e4, d4⟩ := spec_l1Once_spec hl d3.1 2
  cases b
  · refine ⟨s, ?_, by omega⟩
    have fT := fun h => finN_bs s h
    apply S.spec_DrawRecords.gives (k := 10)
    generalize fzl true 1 cy code = C at *
    generalize GV.str (bs s) = Z at *
    simp [S.spec_DrawRecords.run, e1, e2, b1', e4, fT]
  · obtain ⟨t, H5, e5, h5, d5⟩ := spec_l13Bend_spec (s := s) (signs := [48, 49, 57, 32, 97, 10]) hl d4.1 (by omega) (by decide) (by decide)
    have e5' : HH fn.spec_l13Bend [.ptr 0 0 3, .str (bs s), .str { data := #[48, 49, 57, 32, 97, 10] }] H4 = _ := e5
    refine ⟨t, ?_, by omega⟩
    have fT := fun h => finN_bs t h
    apply S.spec_DrawRecords.gives (k := 10)
    generalize fzl true 1 cy code = C at *
    generalize GV.str (bs s) = Z at *
    generalize GV.str (bs t) = T at *
    simp [S.spec_DrawRecords.run, e1, e2, b1', e4, e5', fT]
theorem spec_DrawRecord_spec (code : List UInt8) (hl : code.length ≤ 1048576) : ∃ r : List UInt8, NN fn.spec_DrawRecord [fzl true 1 cy code] = some (.str (bs r)) ∧ r.length ≤ 5001 := by
  obtain ⟨H1, e1, c1⟩ := l1New_nil code hl
  obtain ⟨b, H2, e2, d2⟩ := spec_l1Once_spec hl c1 30
  cases b
  · obtain ⟨s, H3, e3, h3, d3⟩ := spec_l1DrawBytes_spec hl d2.1
    refine ⟨s, ?_, by omega⟩
    have fT := fun h => finN_bs s h
    apply S.spec_DrawRecord.gives (k := 0)
    generalize fzl true 1 cy code = C at *
    generalize GV.str (bs s) = Z at *
    simp [S.spec_DrawRecord.run, e1, e2, e3, fT]
  · obtain ⟨m, H6, e6, hm, d6⟩ := draw_nat hl d2.1 (n := 2) (by omega) (m := 2) rfl
    have ad : kbin .add (.int .i64 5000) (.int .i64 (m : Nat)) = some (.int .i64 ((5000 + m : Nat) : Int)) := by rw [kbin_add, wrap_id (by omega) (by omega)]; rfl
    have mk := make_bytes (H := H6) (m := 5000 + m) (by omega) (x := ((5000 + m : Nat) : Int)) rfl
    have st : kbstr (H6 ++ [(List.replicate (5000 + m) (0 : UInt8)).flatMap cy]) (.sl H6.length 0 (5000 + m) (5000 + m) 1) = some (.str (bs (List.replicate (5000 + m) 0))) :=
      kbstr_at (rest := []) (R := []) (l := List.replicate (5000 + m) 0) (by simp) (by simp) (by simp)
    have fT := fun h => finN_bs (List.replicate (5000 + m) 0) h
    refine ⟨List.replicate (5000 + m) 0, ?_, by rw [List.length_replicate]; omega⟩
    apply S.spec_DrawRecord.gives (k := 0)
    generalize fzl true 1 cy code = C at *
    generalize GV.str (bs (List.replicate (5000 + m) 0)) = Y at *
    generalize GV.int .i64 ((5000 + m : Nat) : Int) = M' at *
    generalize GV.int .i64 (m : Nat) = M at *
    generalize GV.sl H6.length 0 (5000 + m) (5000 + m) 1 = W at *
    generalize (H6 ++ [(List.replicate (5000 + m) (0 : UInt8)).flatMap cy]) = H7 at *
    simp [S.spec_DrawRecord.run, e1, e2, e6, ad, mk, st, fT]
theorem spec_DrawSum_spec (code : List UInt8) (hl : code.length ≤ 1048576) : ∃ q : List UInt8, NN fn.spec_DrawSum [fzl true 1 cy code] = some (.str (bs q)) ∧ q.length ≤ 100 := by
  obtain ⟨H1, e1, c1⟩ := l1New_nil code hl
  obtain ⟨s, H3, e3, h3, d3⟩ := spec_l1DrawBytes_spec hl c1
  have fT := fun h => finN_bs s h
  have g : NN fn.spec_DrawGet [fzl true 1 cy code] = some (.str (bs s)) := by
    apply S.spec_DrawGet.gives (k := 0)
    generalize fzl true 1 cy code = C at *
    generalize GV.str (bs s) = Z at *
    simp [S.spec_DrawGet.run, e1, e3, fT]
  have k1 : ∀ H, kN NN fn.spec_DrawGet [fzl true 1 cy code] H = _ := fun H => kN_at bors_cy g
  refine ⟨s, ?_, h3⟩
  apply S.spec_DrawSum.gives (k := 0)
  generalize fzl true 1 cy code = C at *
  generalize GV.str (bs s) = Z at *
  simp [S.spec_DrawSum.run, k1, fT, -kN_eq]
theorem spec_DrawTorn_spec (code : List UInt8) (hl : code.length ≤ 1048576) : ∃ (s : List UInt8) (a : Int) (m : List UInt8) (b : Int), NN fn.spec_DrawTorn [fzl true 1 cy code] = some (.tup [.str (bs s), .int .i64 a, .str (bs m), .int .i64 b]) ∧ s.length ≤ 30000 ∧ m.length ≤ 6000 := by
  obtain ⟨H1, e1, c1⟩ := l1New_nil code hl
  obtain ⟨s, e2, hs⟩ := spec_DrawRecords_spec code hl
  have k2 : ∀ H, kN NN fn.spec_DrawRecords [fzl true 1 cy code] H = _ := fun H => kN_at bors_cy e2
  have kl := klenS_bs s
  have ad : kbin .add (.int .i64 (s.length : Nat)) (.int .i64 2) = some (.int .i64 ((s.length + 2 : Nat) : Int)) := by rw [kbin_add, wrap_id (by omega) (by omega)]; rfl
  obtain ⟨a, H3, e3, ha, d3⟩ := draw_nat hl c1 (n := s.length + 2) (by omega) (m := ((s.length + 2 : Nat) : Int)) rfl
  obtain ⟨b, H4, e4, hb, d4⟩ := draw_nat hl d3.1 (n := 12) (by omega) (m := 12) rfl
  obtain ⟨t, H5, e5, d5⟩ := spec_l1Once_spec hl d4.1 10
  have rc : ∀ H, kN NN fn.spec_Record [.str { data := #[110, 101, 119] }] H = some (.str (bs (recM [110, 101, 119]))) := fun H => kN_at (xs := [.str { data := #[110, 101, 119] }]) (by simp) (spec_Record_spec [110, 101, 119] (by decide))
  have rl := recM_short [110, 101, 119]
  have ax : kbin .add (.str (bs (recM [110, 101, 119]))) (.str { data := #[120] }) = some (.str (bs (recM [110, 101, 119] ++ [120]))) := kadd_c (B := [120]) rfl (by simp only [List.length_singleton, maxLen]; omega)
  have last : ∀ (x : Int) (H : Heap), S.spec_DrawTorn.n6 0 (fun x v2 v3 v4 v5 h => kend x (finN (.tup [v2, v3, v4, v5]) h)) (.str (bs s)) (.int .i64 x) (.int .i64 (b : Nat)) H = some (.tup [.str (bs s), .int .i64 x, .str (bs (recM [110, 101, 119] ++ [120])), .int .i64 (b : Nat)]) := fun x H => by
    have fT : finN (.tup [.str (bs s), .int .i64 x, .str (bs (recM [110, 101, 119] ++ [120])), .int .i64 (b : Nat)]) H = some (.tup [.str (bs s), .int .i64 x, .str (bs (recM [110, 101, 119] ++ [120])), .int .i64 (b : Nat)]) := rfl
    generalize GV.str (bs (recM [110, 101, 119] ++ [120])) = RX at *
    generalize GV.str (bs (recM [110, 101, 119])) = RN at *
    generalize GV.str (bs s) = Z at *
    simp only [S.spec_DrawTorn.n6, rc, Option.bind_some, ax, kend_ret, fT]
  have hm : (recM [110, 101, 119] ++ [120]).length ≤ 6000 := by rw [List.length_append, List.length_singleton]; omega
  cases t
  · refine ⟨s, a, _, b, ?_, hs, hm⟩
    have l := fun H => last a H
    apply S.spec_DrawTorn.gives (k := 0)
    generalize fzl true 1 cy code = C at *
    generalize GV.str (bs (recM [110, 101, 119] ++ [120])) = RX at *
    generalize GV.str (bs s) = Z at *
    simp only [S.spec_DrawTorn.run, S.spec_DrawTorn.n0, S.spec_DrawTorn.n1, e1, Option.bind_some, kr_mk, S.spec_DrawTorn.n2, k2, S.spec_DrawTorn.n3, kl, ad, e3, S.spec_DrawTorn.n4, e4, S.spec_DrawTorn.n5, e5, kcond_bool, cond_false, l]
  · have gf : gfill (fun i => some (i, 1)) (zeros [(.int .i64 0)] 3) [(0, (.int .i64 (-1))), (1, (.int .i64 4611686018427387904)), (2, (.int .i64 (-9223372036854775808)))] = some (([-1, 4611686018427387904, -9223372036854775808] : List Int).map (GV.int .i64)) := by rfl
    obtain ⟨x6, H6, q6, g, e6, k61, k62, ⟨x, rfl⟩, d6⟩ := draw_tab hl d5.1 (P := fun g => ∃ n : Int, g = .int .i64 n) (T := ([-1, 4611686018427387904, -9223372036854775808] : List Int).map (GV.int .i64)) (by
      intro g hg
      obtain ⟨n, _, rfl⟩ := List.mem_map.1 hg
      exact ⟨n, rfl⟩) (n := 3) rfl (by decide) (m := 3) rfl
    refine ⟨s, x, _, b, ?_, hs, hm⟩
    have l := fun H => last x H
    apply S.spec_DrawTorn.gives (k := 0)
    generalize ([-1, 4611686018427387904, -9223372036854775808] : List Int).map (GV.int .i64) = T at *
    generalize fzl true 1 cy code = C at *
    generalize GV.str (bs (recM [110, 101, 119] ++ [120])) = RX at *
    generalize GV.str (bs s) = Z at *
    simp only [S.spec_DrawTorn.run, S.spec_DrawTorn.n0, S.spec_DrawTorn.n1, e1, Option.bind_some, kr_mk, S.spec_DrawTorn.n2, k2, S.spec_DrawTorn.n3, kl, ad, e3, S.spec_DrawTorn.n4, e4, S.spec_DrawTorn.n5, e5, kcond_bool, cond_true, Nat.mul_one, gf, kbs_at', e6, k61, k62, l]

/-! The records one behind the other. -/
theorem flat_le (ts : List (List UInt8)) (j : Nat) : ((ts.take j).flatMap recM).length ≤ (ts.flatMap recM).length := by
  have : (ts.take j ++ ts.drop j).flatMap recM = (ts.take j).flatMap recM ++ (ts.drop j).flatMap recM := List.flatMap_append
  rw [List.take_append_drop] at this
  rw [this, List.length_append]
  omega
theorem again_l24 {Q : Type} (k : Nat) (G : KT7 Q) (ts : List (List UInt8)) (hts : ∀ t ∈ ts, t.length ≤ 5000) (hn : ts.length ≤ 1048576) (hl : (ts.flatMap recM).length ≤ 1048576) {v4 : GV} {H : Heap} {R : List Nat} (hv : rTexts H [v4] (ts.map bs) R) (v0 v2 v3 v5 v6 : GV) :
    S.laws_FnRecords.l24 k G (ts.length + 1) v0 v2 v3 v4 v5 v6 (.str { data := #[] }) (.int .i64 0) H = G (.ext 0) v0 v2 v3 v4 v5 v6 (.str (bs (ts.flatMap recM))) H := by
  have kl := texts_len hv
  rw [List.length_map] at kl
  have key := loopTo (n := ts.length) (m := ts.length + 1) (f := fun r j => S.laws_FnRecords.l24 k G r v0 v2 v3 v4 v5 v6 (.str (bs ((ts.take j).flatMap recM))) (.int .i64 (j : Nat)) H) (A := G (.ext 0) v0 v2 v3 v4 v5 v6 (.str (bs (ts.flatMap recM))) H)
    (fun j r hj => by
      have h1 : (j : Int) < ts.length := by omega
      have lt : kbin .lss (.int .i64 (j : Nat)) (.int .i64 (ts.length : Nat)) = some (.bool true) := by rw [kbin_lss, decide_eq_true h1]
      obtain ⟨q, k1, k2⟩ := texts_at hv (j := j) (by rw [List.length_map]; exact hj)
      rw [List.getElem_map] at k2
      have rc : ∀ H, kN NN fn.spec_Record [.str (bs ts[j])] H = _ := fun H => kN_at (by simp) (spec_Record_spec ts[j] (by have := hts ts[j] (List.getElem_mem hj); omega))
      have e : (ts.take (j + 1)).flatMap recM = (ts.take j).flatMap recM ++ recM ts[j] := by
        rw [List.take_add_one, List.getElem?_eq_getElem hj, List.flatMap_append]; simp
      have fle := flat_le ts (j + 1)
      rw [e, List.length_append] at fle
      have ad := kadd_bs (a := (ts.take j).flatMap recM) (b := recM ts[j]) (by simp only [maxLen]; omega)
      rw [← e] at ad
      have a1 : kbin .add (.int .i64 (j : Nat)) (.int .i64 1) = some (.int .i64 ((j + 1 : Nat) : Int)) := by rw [kbin_add, wrap_succ (by simp only [maxLen]; omega)]; rfl
      generalize GV.str (bs ((ts.take (j + 1)).flatMap recM)) = A' at *
      generalize GV.str (bs ((ts.take j).flatMap recM)) = A at *
      generalize GV.str (bs (recM ts[j])) = RT at *
      generalize GV.str (bs ts[j]) = T at *
      generalize GV.int .i64 ((j + 1 : Nat) : Int) = J' at *
      generalize GV.int .i64 (j : Nat) = J at *
      simp [S.laws_FnRecords.l24, kl, lt, k1, k2, rc, ad, a1, -kN_eq])
    (fun r => by
      have lt : kbin .lss (.int .i64 (ts.length : Nat)) (.int .i64 (ts.length : Nat)) = some (.bool false) := by rw [kbin_lss, decide_eq_false (by omega)]
      rw [List.take_length]
      generalize GV.str (bs (ts.flatMap recM)) = A at *
      generalize GV.int .i64 (ts.length : Nat) = L at *
      simp [S.laws_FnRecords.l24, kl, lt]) (by omega)
  simpa using key

theorem FnRecords_row (a0 : List (Int)) (i0 : inSl (fun x1 : Int => (Lit.int .u8 x1).wf = true) a0) : NN fn.laws_FnRecords [(fzl true 1 (fun x1 : Int => [GV.int .u8 x1]) a0)] = some (.bool true) := by
  obtain ⟨code, e0, _⟩ := code_of i0
  rw [e0]
  have big : ∀ H, kN NN fn.laws_big [fzl true 1 cy code] H = _ := fun H => kN_at bors_cy (laws_big_spec code)
  by_cases hb : 4096 < code.length
  · rw [decide_eq_true hb] at big
    apply S.laws_FnRecords.gives (k := 0)
    generalize fzl true 1 cy code = C at *
    simp only [S.laws_FnRecords.run, S.laws_FnRecords.n0, S.laws_FnRecords.n1, big, Option.bind_some, kcond_bool, cond_true, kend_ret, finN_bool]
  rw [decide_eq_false hb] at big
  have hl : code.length ≤ 1048576 := by omega
  obtain ⟨d, d1, hd⟩ := spec_DrawRecords_spec code hl
  have D1 : ∀ H, kN NN fn.spec_DrawRecords [fzl true 1 cy code] H = _ := fun H => kN_at bors_cy d1
  obtain ⟨r, d2, hr⟩ := spec_DrawRecord_spec code hl
  have D2 : ∀ H, kN NN fn.spec_DrawRecord [fzl true 1 cy code] H = _ := fun H => kN_at bors_cy d2
  obtain ⟨s, a, m, b, d3, hs, hm⟩ := spec_DrawTorn_spec code hl
  have D3 : ∀ H, kN NN fn.spec_DrawTorn [fzl true 1 cy code] H = _ := fun H => kN_at bors_cy d3
  obtain ⟨q, d4, hq⟩ := spec_DrawSum_spec code hl
  have D4 : ∀ H, kN NN fn.spec_DrawSum [fzl true 1 cy code] H = _ := fun H => kN_at bors_cy d4
  have fr := fun (e : List UInt8) (he : e.length ≤ 1048576) (H : Heap) => fresh_tupI goodTexts (f := fn.impl_Records) (args := [.str (bs e)]) (xs := [.str (bs e)]) (H := H) (x := recsM e) (n := recsN e) (by simp) (impl_Records_spec e he H.length)
  obtain ⟨v4, R4, H1, a1, a2, a3, a4, a5, a6⟩ := fr d (by omega) []
  have sr : ∀ H, kN NN fn.spec_Records [.str (bs d)] H = _ := fun H => kN_at (by simp) (spec_Records_spec d (by omega))
  have bnd := recsGo_b (d.length + 1) d
  have hxl : (recsM d).length ≤ 1048576 := by unfold recsM; rw [List.length_map]; omega
  have like1 : kN NN fn.laws_likeTexts [v4, fzl false 1 cs (recsM d)] H1 = some (.bool true) := kN_at (xs := [fzl true 1 cs (recsM d), fzl true 1 cs (recsM d)]) (bors_one (RFl.good (es := 1) (mk := cs) (fun _ => rfl) (fun _ => rfl)) (by omega) a2 (by simp)) (laws_likeTexts_spec _ hxl)
  have rc1 : ∀ H, kN NN fn.impl_Record [.str (bs r)] H = _ := fun H => kN_at (by simp) (impl_Record_spec r (by omega))
  have rc2 : ∀ H, kN NN fn.spec_Record [.str (bs r)] H = _ := fun H => kN_at (by simp) (spec_Record_spec r (by omega))
  have t1 : ∀ H, kN NN fn.impl_Torn [.str (bs s), .int .i64 a, .str (bs m), .int .i64 b] H = _ := fun H => kN_at (by simp) (impl_Torn_spec s a m b (by omega) (by omega))
  have t2 : ∀ H, kN NN fn.spec_Torn [.str (bs s), .int .i64 a, .str (bs m), .int .i64 b] H = _ := fun H => kN_at (by simp) (spec_Torn_spec s a m b (by omega) (by omega))
  have s1 : ∀ H, kN NN fn.impl_Sum [.str (bs q)] H = some (.int .i64 (sumGo 2 q)) := fun H => kN_at (by simp) (impl_Sum_spec q (by omega))
  have s2 : ∀ H, kN NN fn.spec_Sum [.str (bs q)] H = some (.int .i64 (sumGo 2 q)) := fun H => kN_at (by simp) (spec_Sum_spec q (by omega))
  have neS : ∀ l : List UInt8, kbin .neq (.str (bs l)) (.str (bs l)) = some (.bool false) := fun l => by rw [kbin_sneq]; simp
  have neI : ∀ x : Int, kbin .neq (.int .i64 x) (.int .i64 x) = some (.bool false) := fun x => by rw [kbin_neq]; simp
  have ne1 := neI (recsN d)
  have ne2 := neS (recM r)
  have ne3 := neS (tornM s a m b)
  have ne4 := neI (sumGo 2 q)
  /- all again -/
  obtain ⟨c1, c2⟩ := recs_cat (d.length + 1) d
  have hv1 : rTexts H1 [v4] ((recsGo (d.length + 1) d).1.map bs) R4 := a2
  have again := fun {Q : Type} (k : Nat) (G : KT7 Q) (v0 v2 v3 v5 v6 : GV) => again_l24 k G (recsGo (d.length + 1) d).1 bnd.2 (by omega) (by rw [c1, List.length_take]; omega) hv1 v0 v2 v3 v5 v6
  rw [c1] at again
  have rn : recsN d = ((recsGo (d.length + 1) d).2 : Nat) := rfl
  have sl : kslS (.str (bs d)) none (some (.int .i64 (recsN d))) none = some (.str (bs (d.take (recsGo (d.length + 1) d).2))) := by rw [rn]; exact slS_to c2
  have eqA : kbin .eql (.str (bs (d.take (recsGo (d.length + 1) d).2))) (.str (bs (d.take (recsGo (d.length + 1) d).2))) = some (.bool true) := by rw [kbin_seql]; simp
  /- the disk cut -/
  have n0 : 0 ≤ recsN d := by rw [rn]; omega
  have nb : recsN d ≤ 30000 := by rw [rn]; omega
  have ad1 : kbin .add (.int .i64 (recsN d)) (.int .i64 1) = some (.int .i64 (recsN d + 1)) := by rw [kbin_add, wrap_id (by omega) (by omega)]
  obtain ⟨x, px⟩ := laws_pick_spec code (recsN d + 1) hl (by omega)
  have pk : ∀ H, kN NN fn.laws_pick [fzl true 1 cy code, .int .i64 1, .int .i64 (recsN d + 1)] H = _ := fun H => kN_at (xs := [fzl true 1 cy code, .int .i64 1, .int .i64 (recsN d + 1)]) (by rw [bors_cons, bor_cy]; simp) px
  have tn : tornM d x [] 0 = d.take (clampN x d.length) := by unfold tornM; simp
  have t3 : ∀ H, kN NN fn.impl_Torn [.str (bs d), .int .i64 x, .str { data := #[] }, .int .i64 0] H = some (.str (bs (d.take (clampN x d.length)))) := fun H => kN_at (xs := [.str (bs d), .int .i64 x, .str (bs []), .int .i64 0]) (by simp) (by rw [impl_Torn_spec d x [] 0 (by omega) (by simp), tn])
  obtain ⟨v17, R17, H2, b1, b2, b3, b4, b5, b6⟩ := fr (d.take (clampN x d.length)) (by rw [List.length_take]; omega) H1
  obtain ⟨p1, p2⟩ := recs_pre ((d.take (clampN x d.length)).length + 1) (d.length + 1) d (clampN x d.length) (by rw [List.length_take]; omega)
  have le : kbin .leq (.int .i64 (recsN (d.take (clampN x d.length)))) (.int .i64 (recsN d)) = some (.bool true) := by
    rw [kbin_leq, decide_eq_true (by show ((recsGo _ _).2 : Int) ≤ ((recsGo _ _).2 : Nat); omega)]
  have hv2 : rTexts H2 [v4] (recsM d) R4 := goodTexts.keep a2 b5 (fun i hi h => by cases h)
  /- two records -/
  have rf : ∀ H, kN NN fn.spec_Record [.str { data := #[102, 105, 114, 115, 116] }] H = some (.str (bs (recM [102, 105, 114, 115, 116]))) := fun H => kN_at (xs := [.str { data := #[102, 105, 114, 115, 116] }]) (by simp) (spec_Record_spec [102, 105, 114, 115, 116] (by decide))
  have l1 := recM_short [102, 105, 114, 115, 116]
  have l2 := recM_short r
  have ad2 := kadd_bs (a := recM [102, 105, 114, 115, 116]) (b := recM r) (by simp only [maxLen]; omega)
  have ad3 : kbin .add (.str (bs (recM [102, 105, 114, 115, 116] ++ recM r))) (.str { data := #[120] }) = some (.str (bs (recM [102, 105, 114, 115, 116] ++ recM r ++ [120]))) := kadd_c (B := [120]) rfl (by simp only [List.length_append, List.length_singleton, maxLen]; omega)
  obtain ⟨v19, R19, H3, g1, g2, g3, g4, g5, g6⟩ := fr (recM [102, 105, 114, 115, 116] ++ recM r ++ [120]) (by simp only [List.length_append, List.length_singleton]; omega) H2
  have hv3 : rTexts H3 [v4] (recsM d) R4 := goodTexts.keep hv2 g5 (fun i hi h => by cases h)
  have hw3 : rTexts H3 [v17] (recsM (d.take (clampN x d.length))) R17 := goodTexts.keep b2 g5 (fun i hi h => by cases h)
  have pre : ∃ n, n ≤ (recsM d).length ∧ recsM (d.take (clampN x d.length)) = (recsM d).take n := by
    obtain ⟨t, ht⟩ := p1
    refine ⟨(recsGo ((d.take (clampN x d.length)).length + 1) (d.take (clampN x d.length))).1.length, ?_, ?_⟩
    · unfold recsM; rw [List.length_map, ← ht, List.length_append]; omega
    · show List.map bs _ = (List.map bs _).take _
      rw [← ht, List.map_append, List.take_left' (by rw [List.length_map])]
  obtain ⟨n, hn, hpre⟩ := pre
  have beg : kN NN fn.laws_begins [v4, v17] H3 = some (.bool true) := by
    obtain ⟨x1, h1, h2⟩ := goodTexts.lend1 (by omega) hv3
    obtain ⟨y1, h3, h4⟩ := goodTexts.lend1 (by omega) hw3
    simp only [List.cons.injEq, and_true] at h2 h4
    refine kN_at (xs := [fzl true 1 cs (recsM d), fzl true 1 cs ((recsM d).take n)]) ?_ (laws_begins_spec (recsM d) n hn hxl)
    rw [bors_cons, h1, Option.bind_some, bors_cons, h3, ← h2, ← hpre, ← h4]
    rfl
  have krl := klenS_bs r
  have kfr := klenS_bs (recM [102, 105, 114, 115, 116] ++ recM r)
  have leq : kbin .leq (.int .i64 (r.length : Nat)) (.int .i64 5000) = some (.bool (decide (r.length ≤ 5000))) := by rw [kbin_leq]; congr 2; rw [Bool.eq_iff_iff, decide_eq_true_eq, decide_eq_true_eq]; omega
  apply S.laws_FnRecords.gives (k := (recsGo (d.length + 1) d).1.length + 1)
  have ag := fun {Q : Type} (G : KT7 Q) (v0 v2 v3 v5 v6 : GV) => again ((recsGo (d.length + 1) d).1.length + 1) G v0 v2 v3 v5 v6
  generalize (recsGo (d.length + 1) d).1.length + 1 = FUEL at *
  by_cases hr5 : r.length ≤ 5000
  · rw [decide_eq_true hr5] at leq
    have two : recsGo ((recM [102, 105, 114, 115, 116] ++ recM r ++ [120]).length + 1) (recM [102, 105, 114, 115, 116] ++ recM r ++ [120]) = ([[102, 105, 114, 115, 116], r], (recM [102, 105, 114, 115, 116] ++ recM r).length) := by
      obtain ⟨f, hf⟩ : ∃ f, (recM [102, 105, 114, 115, 116] ++ recM r ++ [120]).length + 1 = f + 3 := by
        have := (recM_len (t := [102, 105, 114, 115, 116]) (by decide)).1
        refine ⟨(recM [102, 105, 114, 115, 116] ++ recM r ++ [120]).length - 2, ?_⟩
        simp only [List.length_append, List.length_singleton]
        have := (recM_len hr5).1
        omega
      rw [hf]
      exact recs_two (by decide) hr5 f
    have w1 : recsM (recM [102, 105, 114, 115, 116] ++ recM r ++ [120]) = [bs [102, 105, 114, 115, 116], bs r] := by unfold recsM; rw [two]; rfl
    have w2 : recsN (recM [102, 105, 114, 115, 116] ++ recM r ++ [120]) = ((recM [102, 105, 114, 115, 116] ++ recM r).length : Nat) := by unfold recsN; rw [two]
    rw [w2] at g1
    rw [w1] at g2
    have kl19 : klen v19 = some (.int .i64 2) := texts_len g2
    obtain ⟨y, y1, y2⟩ := texts_at g2 (j := 1) (by simp)
    have y1' : kia 1 v19 (.int .i64 1) = some y := y1
    have y2' : kload1 H3 y = some (.str (bs r)) := y2
    have ne5 := neS r
    have ne6 := neI 2
    have ne7 := neI ((recM [102, 105, 114, 115, 116] ++ recM r).length : Nat)
    generalize fzl true 1 cy code = C at *
    generalize fzl false 1 cs (recsM d) = F at *
    generalize GV.str (bs (d.take (recsGo (d.length + 1) d).2)) = DT at *
    generalize GV.str (bs (d.take (clampN x d.length))) = DC at *
    generalize GV.str (bs (recM [102, 105, 114, 115, 116] ++ recM r ++ [120])) = W3 at *
    generalize GV.str (bs (recM [102, 105, 114, 115, 116] ++ recM r)) = W2 at *
    generalize GV.str (bs (recM [102, 105, 114, 115, 116])) = W1 at *
    generalize GV.str (bs (recM r)) = RM at *
    generalize GV.str (bs (tornM s a m b)) = TO at *
    generalize GV.str (bs d) = D at *
    generalize GV.str (bs r) = RR at *
    generalize GV.str (bs s) = SS at *
    generalize GV.str (bs m) = MM at *
    generalize GV.str (bs q) = QQ at *
    generalize GV.int .i64 (sumGo 2 q) = SU at *
    generalize GV.int .i64 (recsN (d.take (clampN x d.length))) = NC at *
    generalize GV.int .i64 (recsN d + 1) = N1 at *
    generalize GV.int .i64 (recsN d) = NN0 at *
    generalize GV.int .i64 ((recM [102, 105, 114, 115, 116] ++ recM r).length : Nat) = LL at *
    generalize GV.int .i64 (r.length : Nat) = LR at *
    clear again hv1 hv2 hv3 hw3 a2 b2 g2 w1 w2 two fr
    simp only [S.laws_FnRecords.run, S.laws_FnRecords.n0, S.laws_FnRecords.n1, S.laws_FnRecords.n2, Option.bind_some, kr_mk, kxt_tup, List.getElem?_cons_zero, List.getElem?_cons_succ, kcond_bool, cond_true, cond_false, kun_not, Bool.not_true, Bool.not_false, kpick_bool, tr_bool, tr_un, kx_nrm, kx_ret, kb_nrm, kb_ret, kend_ret, kend_nrm, finN_bool, beq_self_eq_true, beq_false, beq_true, Bool.false_eq_true, BEq.rfl, Bool.not_eq_true, reduceCtorEq, big, D1, a1, D2, D3, t1, D4, sr, like1, ne1, rc1, rc2, ne2, t2, ne3, s1, s2, ne4, ag, ad1, pk, t3, b1, rf, ad2, ad3, g1, krl, leq, kl19, ne6, y1', y2', ne5, kfr, ne7, sl, eqA, le, beg]
    try simp only [S.laws_FnRecords.n3, S.laws_FnRecords.n4, S.laws_FnRecords.n5, S.laws_FnRecords.n6, Option.bind_some, kr_mk, kxt_tup, List.getElem?_cons_zero, List.getElem?_cons_succ, kcond_bool, cond_true, cond_false, kun_not, Bool.not_true, Bool.not_false, kpick_bool, tr_bool, tr_un, kx_nrm, kx_ret, kb_nrm, kb_ret, kend_ret, kend_nrm, finN_bool, beq_self_eq_true, beq_false, beq_true, Bool.false_eq_true, BEq.rfl, Bool.not_eq_true, reduceCtorEq, big, D1, a1, D2, D3, t1, D4, sr, like1, ne1, rc1, rc2, ne2, t2, ne3, s1, s2, ne4, ag, ad1, pk, t3, b1, rf, ad2, ad3, g1, krl, leq, kl19, ne6, y1', y2', ne5, kfr, ne7, sl, eqA, le, beg]
    try simp only [S.laws_FnRecords.n7, S.laws_FnRecords.n8, S.laws_FnRecords.n33, S.laws_FnRecords.n34, Option.bind_some, kr_mk, kxt_tup, List.getElem?_cons_zero, List.getElem?_cons_succ, kcond_bool, cond_true, cond_false, kun_not, Bool.not_true, Bool.not_false, kpick_bool, tr_bool, tr_un, kx_nrm, kx_ret, kb_nrm, kb_ret, kend_ret, kend_nrm, finN_bool, beq_self_eq_true, beq_false, beq_true, Bool.false_eq_true, BEq.rfl, Bool.not_eq_true, reduceCtorEq, big, D1, a1, D2, D3, t1, D4, sr, like1, ne1, rc1, rc2, ne2, t2, ne3, s1, s2, ne4, ag, ad1, pk, t3, b1, rf, ad2, ad3, g1, krl, leq, kl19, ne6, y1', y2', ne5, kfr, ne7, sl, eqA, le, beg]
    try simp only [S.laws_FnRecords.n36, S.laws_FnRecords.g36_0, S.laws_FnRecords.g36_1, S.laws_FnRecords.g36_2, Option.bind_some, kr_mk, kxt_tup, List.getElem?_cons_zero, List.getElem?_cons_succ, kcond_bool, cond_true, cond_false, kun_not, Bool.not_true, Bool.not_false, kpick_bool, tr_bool, tr_un, kx_nrm, kx_ret, kb_nrm, kb_ret, kend_ret, kend_nrm, finN_bool, beq_self_eq_true, beq_false, beq_true, Bool.false_eq_true, BEq.rfl, Bool.not_eq_true, reduceCtorEq, big, D1, a1, D2, D3, t1, D4, sr, like1, ne1, rc1, rc2, ne2, t2, ne3, s1, s2, ne4, ag, ad1, pk, t3, b1, rf, ad2, ad3, g1, krl, leq, kl19, ne6, y1', y2', ne5, kfr, ne7, sl, eqA, le, beg]
    try simp only [S.laws_FnRecords.g36_3, S.laws_FnRecords.g36_4, S.laws_FnRecords.g36_5, S.laws_FnRecords.g36_6, Option.bind_some, kr_mk, kxt_tup, List.getElem?_cons_zero, List.getElem?_cons_succ, kcond_bool, cond_true, cond_false, kun_not, Bool.not_true, Bool.not_false, kpick_bool, tr_bool, tr_un, kx_nrm, kx_ret, kb_nrm, kb_ret, kend_ret, kend_nrm, finN_bool, beq_self_eq_true, beq_false, beq_true, Bool.false_eq_true, BEq.rfl, Bool.not_eq_true, reduceCtorEq, big, D1, a1, D2, D3, t1, D4, sr, like1, ne1, rc1, rc2, ne2, t2, ne3, s1, s2, ne4, ag, ad1, pk, t3, b1, rf, ad2, ad3, g1, krl, leq, kl19, ne6, y1', y2', ne5, kfr, ne7, sl, eqA, le, beg]
    try simp only [S.laws_FnRecords.g36_7, S.laws_FnRecords.g36_8, S.laws_FnRecords.n35, S.laws_FnRecords.n9, Option.bind_some, kr_mk, kxt_tup, List.getElem?_cons_zero, List.getElem?_cons_succ, kcond_bool, cond_true, cond_false, kun_not, Bool.not_true, Bool.not_false, kpick_bool, tr_bool, tr_un, kx_nrm, kx_ret, kb_nrm, kb_ret, kend_ret, kend_nrm, finN_bool, beq_self_eq_true, beq_false, beq_true, Bool.false_eq_true, BEq.rfl, Bool.not_eq_true, reduceCtorEq, big, D1, a1, D2, D3, t1, D4, sr, like1, ne1, rc1, rc2, ne2, t2, ne3, s1, s2, ne4, ag, ad1, pk, t3, b1, rf, ad2, ad3, g1, krl, leq, kl19, ne6, y1', y2', ne5, kfr, ne7, sl, eqA, le, beg]
    try simp only [S.laws_FnRecords.n10, S.laws_FnRecords.n22, S.laws_FnRecords.n23, S.laws_FnRecords.n24, Option.bind_some, kr_mk, kxt_tup, List.getElem?_cons_zero, List.getElem?_cons_succ, kcond_bool, cond_true, cond_false, kun_not, Bool.not_true, Bool.not_false, kpick_bool, tr_bool, tr_un, kx_nrm, kx_ret, kb_nrm, kb_ret, kend_ret, kend_nrm, finN_bool, beq_self_eq_true, beq_false, beq_true, Bool.false_eq_true, BEq.rfl, Bool.not_eq_true, reduceCtorEq, big, D1, a1, D2, D3, t1, D4, sr, like1, ne1, rc1, rc2, ne2, t2, ne3, s1, s2, ne4, ag, ad1, pk, t3, b1, rf, ad2, ad3, g1, krl, leq, kl19, ne6, y1', y2', ne5, kfr, ne7, sl, eqA, le, beg]
    try simp only [S.laws_FnRecords.n11, S.laws_FnRecords.n12, S.laws_FnRecords.n13, S.laws_FnRecords.n17, Option.bind_some, kr_mk, kxt_tup, List.getElem?_cons_zero, List.getElem?_cons_succ, kcond_bool, cond_true, cond_false, kun_not, Bool.not_true, Bool.not_false, kpick_bool, tr_bool, tr_un, kx_nrm, kx_ret, kb_nrm, kb_ret, kend_ret, kend_nrm, finN_bool, beq_self_eq_true, beq_false, beq_true, Bool.false_eq_true, BEq.rfl, Bool.not_eq_true, reduceCtorEq, big, D1, a1, D2, D3, t1, D4, sr, like1, ne1, rc1, rc2, ne2, t2, ne3, s1, s2, ne4, ag, ad1, pk, t3, b1, rf, ad2, ad3, g1, krl, leq, kl19, ne6, y1', y2', ne5, kfr, ne7, sl, eqA, le, beg]
    try simp only [S.laws_FnRecords.n19, S.laws_FnRecords.g19_0, S.laws_FnRecords.g19_1, S.laws_FnRecords.g19_2, Option.bind_some, kr_mk, kxt_tup, List.getElem?_cons_zero, List.getElem?_cons_succ, kcond_bool, cond_true, cond_false, kun_not, Bool.not_true, Bool.not_false, kpick_bool, tr_bool, tr_un, kx_nrm, kx_ret, kb_nrm, kb_ret, kend_ret, kend_nrm, finN_bool, beq_self_eq_true, beq_false, beq_true, Bool.false_eq_true, BEq.rfl, Bool.not_eq_true, reduceCtorEq, big, D1, a1, D2, D3, t1, D4, sr, like1, ne1, rc1, rc2, ne2, t2, ne3, s1, s2, ne4, ag, ad1, pk, t3, b1, rf, ad2, ad3, g1, krl, leq, kl19, ne6, y1', y2', ne5, kfr, ne7, sl, eqA, le, beg]
    try simp only [S.laws_FnRecords.g19_3, S.laws_FnRecords.g19_4, S.laws_FnRecords.g19_5, S.laws_FnRecords.g19_6, Option.bind_some, kr_mk, kxt_tup, List.getElem?_cons_zero, List.getElem?_cons_succ, kcond_bool, cond_true, cond_false, kun_not, Bool.not_true, Bool.not_false, kpick_bool, tr_bool, tr_un, kx_nrm, kx_ret, kb_nrm, kb_ret, kend_ret, kend_nrm, finN_bool, beq_self_eq_true, beq_false, beq_true, Bool.false_eq_true, BEq.rfl, Bool.not_eq_true, reduceCtorEq, big, D1, a1, D2, D3, t1, D4, sr, like1, ne1, rc1, rc2, ne2, t2, ne3, s1, s2, ne4, ag, ad1, pk, t3, b1, rf, ad2, ad3, g1, krl, leq, kl19, ne6, y1', y2', ne5, kfr, ne7, sl, eqA, le, beg]
    try simp only [S.laws_FnRecords.n18, S.laws_FnRecords.n14, S.laws_FnRecords.n16, S.laws_FnRecords.g16_0, Option.bind_some, kr_mk, kxt_tup, List.getElem?_cons_zero, List.getElem?_cons_succ, kcond_bool, cond_true, cond_false, kun_not, Bool.not_true, Bool.not_false, kpick_bool, tr_bool, tr_un, kx_nrm, kx_ret, kb_nrm, kb_ret, kend_ret, kend_nrm, finN_bool, beq_self_eq_true, beq_false, beq_true, Bool.false_eq_true, BEq.rfl, Bool.not_eq_true, reduceCtorEq, big, D1, a1, D2, D3, t1, D4, sr, like1, ne1, rc1, rc2, ne2, t2, ne3, s1, s2, ne4, ag, ad1, pk, t3, b1, rf, ad2, ad3, g1, krl, leq, kl19, ne6, y1', y2', ne5, kfr, ne7, sl, eqA, le, beg]
    try simp only [S.laws_FnRecords.g16_1, S.laws_FnRecords.g16_2, S.laws_FnRecords.g16_3, S.laws_FnRecords.g16_4, Option.bind_some, kr_mk, kxt_tup, List.getElem?_cons_zero, List.getElem?_cons_succ, kcond_bool, cond_true, cond_false, kun_not, Bool.not_true, Bool.not_false, kpick_bool, tr_bool, tr_un, kx_nrm, kx_ret, kb_nrm, kb_ret, kend_ret, kend_nrm, finN_bool, beq_self_eq_true, beq_false, beq_true, Bool.false_eq_true, BEq.rfl, Bool.not_eq_true, reduceCtorEq, big, D1, a1, D2, D3, t1, D4, sr, like1, ne1, rc1, rc2, ne2, t2, ne3, s1, s2, ne4, ag, ad1, pk, t3, b1, rf, ad2, ad3, g1, krl, leq, kl19, ne6, y1', y2', ne5, kfr, ne7, sl, eqA, le, beg]
    try simp only [S.laws_FnRecords.n15, Option.bind_some, kr_mk, kxt_tup, List.getElem?_cons_zero, List.getElem?_cons_succ, kcond_bool, cond_true, cond_false, kun_not, Bool.not_true, Bool.not_false, kpick_bool, tr_bool, tr_un, kx_nrm, kx_ret, kb_nrm, kb_ret, kend_ret, kend_nrm, finN_bool, beq_self_eq_true, beq_false, beq_true, Bool.false_eq_true, BEq.rfl, Bool.not_eq_true, reduceCtorEq, big, D1, a1, D2, D3, t1, D4, sr, like1, ne1, rc1, rc2, ne2, t2, ne3, s1, s2, ne4, ag, ad1, pk, t3, b1, rf, ad2, ad3, g1, krl, leq, kl19, ne6, y1', y2', ne5, kfr, ne7, sl, eqA, le, beg]
    rfl
  · rw [decide_eq_false hr5] at leq
    generalize fzl true 1 cy code = C at *
    generalize fzl false 1 cs (recsM d) = F at *
    generalize GV.str (bs (d.take (recsGo (d.length + 1) d).2)) = DT at *
    generalize GV.str (bs (d.take (clampN x d.length))) = DC at *
    generalize recsN (recM [102, 105, 114, 115, 116] ++ recM r ++ [120]) = N3 at *
    generalize GV.str (bs (recM [102, 105, 114, 115, 116] ++ recM r ++ [120])) = W3 at *
    generalize GV.str (bs (recM [102, 105, 114, 115, 116] ++ recM r)) = W2 at *
    generalize GV.str (bs (recM [102, 105, 114, 115, 116])) = W1 at *
    generalize GV.str (bs (recM r)) = RM at *
    generalize GV.str (bs (tornM s a m b)) = TO at *
    generalize GV.str (bs d) = D at *
    generalize GV.str (bs r) = RR at *
    generalize GV.str (bs s) = SS at *
    generalize GV.str (bs m) = MM at *
    generalize GV.str (bs q) = QQ at *
    generalize GV.int .i64 (sumGo 2 q) = SU at *
    generalize GV.int .i64 (recsN (d.take (clampN x d.length))) = NC at *
    generalize GV.int .i64 (recsN d + 1) = N1 at *
    generalize GV.int .i64 (recsN d) = NN0 at *
    generalize GV.int .i64 (r.length : Nat) = LR at *
    clear again hv1 hv2 hv3 hw3 a2 b2 g2 fr
    simp only [S.laws_FnRecords.run, S.laws_FnRecords.n0, S.laws_FnRecords.n1, S.laws_FnRecords.n2, Option.bind_some, kr_mk, kxt_tup, List.getElem?_cons_zero, List.getElem?_cons_succ, kcond_bool, cond_true, cond_false, kun_not, Bool.not_true, Bool.not_false, kpick_bool, tr_bool, tr_un, kx_nrm, kx_ret, kb_nrm, kb_ret, kend_ret, kend_nrm, finN_bool, beq_self_eq_true, beq_false, beq_true, Bool.false_eq_true, BEq.rfl, Bool.not_eq_true, reduceCtorEq, big, D1, a1, D2, D3, t1, D4, sr, like1, ne1, rc1, rc2, ne2, t2, ne3, s1, s2, ne4, ag, ad1, pk, t3, b1, rf, ad2, ad3, g1, krl, leq, sl, eqA, le, beg]
    try simp only [S.laws_FnRecords.n3, S.laws_FnRecords.n4, S.laws_FnRecords.n5, S.laws_FnRecords.n6, Option.bind_some, kr_mk, kxt_tup, List.getElem?_cons_zero, List.getElem?_cons_succ, kcond_bool, cond_true, cond_false, kun_not, Bool.not_true, Bool.not_false, kpick_bool, tr_bool, tr_un, kx_nrm, kx_ret, kb_nrm, kb_ret, kend_ret, kend_nrm, finN_bool, beq_self_eq_true, beq_false, beq_true, Bool.false_eq_true, BEq.rfl, Bool.not_eq_true, reduceCtorEq, big, D1, a1, D2, D3, t1, D4, sr, like1, ne1, rc1, rc2, ne2, t2, ne3, s1, s2, ne4, ag, ad1, pk, t3, b1, rf, ad2, ad3, g1, krl, leq, sl, eqA, le, beg]
    try simp only [S.laws_FnRecords.n7, S.laws_FnRecords.n8, S.laws_FnRecords.n33, S.laws_FnRecords.n34, Option.bind_some, kr_mk, kxt_tup, List.getElem?_cons_zero, List.getElem?_cons_succ, kcond_bool, cond_true, cond_false, kun_not, Bool.not_true, Bool.not_false, kpick_bool, tr_bool, tr_un, kx_nrm, kx_ret, kb_nrm, kb_ret, kend_ret, kend_nrm, finN_bool, beq_self_eq_true, beq_false, beq_true, Bool.false_eq_true, BEq.rfl, Bool.not_eq_true, reduceCtorEq, big, D1, a1, D2, D3, t1, D4, sr, like1, ne1, rc1, rc2, ne2, t2, ne3, s1, s2, ne4, ag, ad1, pk, t3, b1, rf, ad2, ad3, g1, krl, leq, sl, eqA, le, beg]
    try simp only [S.laws_FnRecords.n36, S.laws_FnRecords.g36_0, S.laws_FnRecords.g36_1, S.laws_FnRecords.g36_2, Option.bind_some, kr_mk, kxt_tup, List.getElem?_cons_zero, List.getElem?_cons_succ, kcond_bool, cond_true, cond_false, kun_not, Bool.not_true, Bool.not_false, kpick_bool, tr_bool, tr_un, kx_nrm, kx_ret, kb_nrm, kb_ret, kend_ret, kend_nrm, finN_bool, beq_self_eq_true, beq_false, beq_true, Bool.false_eq_true, BEq.rfl, Bool.not_eq_true, reduceCtorEq, big, D1, a1, D2, D3, t1, D4, sr, like1, ne1, rc1, rc2, ne2, t2, ne3, s1, s2, ne4, ag, ad1, pk, t3, b1, rf, ad2, ad3, g1, krl, leq, sl, eqA, le, beg]
    try simp only [S.laws_FnRecords.g36_3, S.laws_FnRecords.g36_4, S.laws_FnRecords.g36_5, S.laws_FnRecords.g36_6, Option.bind_some, kr_mk, kxt_tup, List.getElem?_cons_zero, List.getElem?_cons_succ, kcond_bool, cond_true, cond_false, kun_not, Bool.not_true, Bool.not_false, kpick_bool, tr_bool, tr_un, kx_nrm, kx_ret, kb_nrm, kb_ret, kend_ret, kend_nrm, finN_bool, beq_self_eq_true, beq_false, beq_true, Bool.false_eq_true, BEq.rfl, Bool.not_eq_true, reduceCtorEq, big, D1, a1, D2, D3, t1, D4, sr, like1, ne1, rc1, rc2, ne2, t2, ne3, s1, s2, ne4, ag, ad1, pk, t3, b1, rf, ad2, ad3, g1, krl, leq, sl, eqA, le, beg]
    try simp only [S.laws_FnRecords.g36_7, S.laws_FnRecords.g36_8, S.laws_FnRecords.n35, S.laws_FnRecords.n9, Option.bind_some, kr_mk, kxt_tup, List.getElem?_cons_zero, List.getElem?_cons_succ, kcond_bool, cond_true, cond_false, kun_not, Bool.not_true, Bool.not_false, kpick_bool, tr_bool, tr_un, kx_nrm, kx_ret, kb_nrm, kb_ret, kend_ret, kend_nrm, finN_bool, beq_self_eq_true, beq_false, beq_true, Bool.false_eq_true, BEq.rfl, Bool.not_eq_true, reduceCtorEq, big, D1, a1, D2, D3, t1, D4, sr, like1, ne1, rc1, rc2, ne2, t2, ne3, s1, s2, ne4, ag, ad1, pk, t3, b1, rf, ad2, ad3, g1, krl, leq, sl, eqA, le, beg]
    try simp only [S.laws_FnRecords.n10, S.laws_FnRecords.n22, S.laws_FnRecords.n23, S.laws_FnRecords.n24, Option.bind_some, kr_mk, kxt_tup, List.getElem?_cons_zero, List.getElem?_cons_succ, kcond_bool, cond_true, cond_false, kun_not, Bool.not_true, Bool.not_false, kpick_bool, tr_bool, tr_un, kx_nrm, kx_ret, kb_nrm, kb_ret, kend_ret, kend_nrm, finN_bool, beq_self_eq_true, beq_false, beq_true, Bool.false_eq_true, BEq.rfl, Bool.not_eq_true, reduceCtorEq, big, D1, a1, D2, D3, t1, D4, sr, like1, ne1, rc1, rc2, ne2, t2, ne3, s1, s2, ne4, ag, ad1, pk, t3, b1, rf, ad2, ad3, g1, krl, leq, sl, eqA, le, beg]
    try simp only [S.laws_FnRecords.n11, S.laws_FnRecords.n12, S.laws_FnRecords.n13, S.laws_FnRecords.n17, Option.bind_some, kr_mk, kxt_tup, List.getElem?_cons_zero, List.getElem?_cons_succ, kcond_bool, cond_true, cond_false, kun_not, Bool.not_true, Bool.not_false, kpick_bool, tr_bool, tr_un, kx_nrm, kx_ret, kb_nrm, kb_ret, kend_ret, kend_nrm, finN_bool, beq_self_eq_true, beq_false, beq_true, Bool.false_eq_true, BEq.rfl, Bool.not_eq_true, reduceCtorEq, big, D1, a1, D2, D3, t1, D4, sr, like1, ne1, rc1, rc2, ne2, t2, ne3, s1, s2, ne4, ag, ad1, pk, t3, b1, rf, ad2, ad3, g1, krl, leq, sl, eqA, le, beg]
    try simp only [S.laws_FnRecords.n19, S.laws_FnRecords.g19_0, S.laws_FnRecords.g19_1, S.laws_FnRecords.g19_2, Option.bind_some, kr_mk, kxt_tup, List.getElem?_cons_zero, List.getElem?_cons_succ, kcond_bool, cond_true, cond_false, kun_not, Bool.not_true, Bool.not_false, kpick_bool, tr_bool, tr_un, kx_nrm, kx_ret, kb_nrm, kb_ret, kend_ret, kend_nrm, finN_bool, beq_self_eq_true, beq_false, beq_true, Bool.false_eq_true, BEq.rfl, Bool.not_eq_true, reduceCtorEq, big, D1, a1, D2, D3, t1, D4, sr, like1, ne1, rc1, rc2, ne2, t2, ne3, s1, s2, ne4, ag, ad1, pk, t3, b1, rf, ad2, ad3, g1, krl, leq, sl, eqA, le, beg]
    try simp only [S.laws_FnRecords.g19_3, S.laws_FnRecords.g19_4, S.laws_FnRecords.g19_5, S.laws_FnRecords.g19_6, Option.bind_some, kr_mk, kxt_tup, List.getElem?_cons_zero, List.getElem?_cons_succ, kcond_bool, cond_true, cond_false, kun_not, Bool.not_true, Bool.not_false, kpick_bool, tr_bool, tr_un, kx_nrm, kx_ret, kb_nrm, kb_ret, kend_ret, kend_nrm, finN_bool, beq_self_eq_true, beq_false, beq_true, Bool.false_eq_true, BEq.rfl, Bool.not_eq_true, reduceCtorEq, big, D1, a1, D2, D3, t1, D4, sr, like1, ne1, rc1, rc2, ne2, t2, ne3, s1, s2, ne4, ag, ad1, pk, t3, b1, rf, ad2, ad3, g1, krl, leq, sl, eqA, le, beg]
    try simp only [S.laws_FnRecords.n18, S.laws_FnRecords.n14, S.laws_FnRecords.n16, S.laws_FnRecords.g16_0, Option.bind_some, kr_mk, kxt_tup, List.getElem?_cons_zero, List.getElem?_cons_succ, kcond_bool, cond_true, cond_false, kun_not, Bool.not_true, Bool.not_false, kpick_bool, tr_bool, tr_un, kx_nrm, kx_ret, kb_nrm, kb_ret, kend_ret, kend_nrm, finN_bool, beq_self_eq_true, beq_false, beq_true, Bool.false_eq_true, BEq.rfl, Bool.not_eq_true, reduceCtorEq, big, D1, a1, D2, D3, t1, D4, sr, like1, ne1, rc1, rc2, ne2, t2, ne3, s1, s2, ne4, ag, ad1, pk, t3, b1, rf, ad2, ad3, g1, krl, leq, sl, eqA, le, beg]
    try simp only [S.laws_FnRecords.g16_1, S.laws_FnRecords.g16_2, S.laws_FnRecords.g16_3, S.laws_FnRecords.g16_4, Option.bind_some, kr_mk, kxt_tup, List.getElem?_cons_zero, List.getElem?_cons_succ, kcond_bool, cond_true, cond_false, kun_not, Bool.not_true, Bool.not_false, kpick_bool, tr_bool, tr_un, kx_nrm, kx_ret, kb_nrm, kb_ret, kend_ret, kend_nrm, finN_bool, beq_self_eq_true, beq_false, beq_true, Bool.false_eq_true, BEq.rfl, Bool.not_eq_true, reduceCtorEq, big, D1, a1, D2, D3, t1, D4, sr, like1, ne1, rc1, rc2, ne2, t2, ne3, s1, s2, ne4, ag, ad1, pk, t3, b1, rf, ad2, ad3, g1, krl, leq, sl, eqA, le, beg]
    try simp only [S.laws_FnRecords.n15, Option.bind_some, kr_mk, kxt_tup, List.getElem?_cons_zero, List.getElem?_cons_succ, kcond_bool, cond_true, cond_false, kun_not, Bool.not_true, Bool.not_false, kpick_bool, tr_bool, tr_un, kx_nrm, kx_ret, kb_nrm, kb_ret, kend_ret, kend_nrm, finN_bool, beq_self_eq_true, beq_false, beq_true, Bool.false_eq_true, BEq.rfl, Bool.not_eq_true, reduceCtorEq, big, D1, a1, D2, D3, t1, D4, sr, like1, ne1, rc1, rc2, ne2, t2, ne3, s1, s2, ne4, ag, ad1, pk, t3, b1, rf, ad2, ad3, g1, krl, leq, sl, eqA, le, beg]
    rfl
end Go.Proofs.YtklhdbkaejbajaaDoor.G
