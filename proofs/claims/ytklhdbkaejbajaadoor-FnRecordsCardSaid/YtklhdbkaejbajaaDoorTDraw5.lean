/- Draws: bytes; texts that are bent. -/
import Derived.Test.YtklhdbkaejbajaaDoorTDraw4
namespace Go.Proofs.YtklhdbkaejbajaaDoor.G
open Go.RowKit Go.Lib
set_option linter.unusedVariables false
set_option linter.unusedSimpArgs false

theorem Cur.keep {p : Nat} {code : List UInt8} {H H' : Heap} {R : List Nat} (h : Cur p code H) (hf : Fr R H H') (hp : p ∉ R) : Cur p code H' := by
  obtain ⟨i, k, h1, h2⟩ := h
  exact ⟨i, k, by rw [hf.2 p (List.getElem?_eq_some_iff.1 h1).1 hp]; exact h1, h2⟩
/-- Blocks below N0 stay, but for p. -/
def Sm (p N0 : Nat) (H H' : Heap) : Prop := H.length ≤ H'.length ∧ ∀ i, i < N0 → i ≠ p → H'[i]? = H[i]?
theorem Sm.refl {p N0 : Nat} {H : Heap} : Sm p N0 H H := ⟨Nat.le_refl _, fun _ _ _ => rfl⟩
theorem Sm.trans {p N0 : Nat} {H H' H'' : Heap} (a : Sm p N0 H H') (b : Sm p N0 H' H'') : Sm p N0 H H'' := ⟨Nat.le_trans a.1 b.1, fun i h1 h2 => (b.2 i h1 h2).trans (a.2 i h1 h2)⟩
theorem Sm.of {p N0 : Nat} {H H' : Heap} {R : List Nat} (hf : Fr R H H') (hN : N0 ≤ H.length) (hr : ∀ i ∈ R, i = p ∨ N0 ≤ i) : Sm p N0 H H' := ⟨hf.1, fun i h1 h2 => hf.2 i (by omega) fun hm => by rcases hr i hm with h | h; exact h2 h; omega⟩
theorem Sm.fr {p : Nat} {H H' : Heap} (h : Sm p H.length H H') : Fr [p] H H' := ⟨h.1, fun i h1 h2 => h.2 i h1 (by simpa using h2)⟩
theorem draw_nat {p : Nat} {code : List UInt8} {H : Heap} (hl : code.length ≤ 1048576) (hc : Cur p code H) {n : Nat} (h0 : 0 < n) {m : Int} (hm : m = (n : Int)) : ∃ (k : Nat) (H' : Heap), HH fn.spec_l1Below [.ptr p 0 3, .int .i64 m] H = some (.int .i64 (k : Nat), H') ∧ k < n ∧ Dr p code H H' := by
  subst hm
  obtain ⟨x, H2, e2, x0, _, x1, d2⟩ := spec_l1Below_spec hl hc n
  have := x1 (by omega)
  exact ⟨x.toNat, H2, by rw [e2]; congr 3; omega, by omega, d2⟩
theorem gather1 {a : GV} {l : List UInt8} {H : Heap} (ha : Bytes a l H) (hl : l.length ≤ 4194304) : ∃ v1 H1, kapp [.int .u8 0] 1 1 .emp a H = some (v1, H1) ∧ BufG cy v1 l H1 ∧ Fr [] H H1 ∧ ∀ i ∈ kblk v1, H.length ≤ i := by
  obtain ⟨r, hr⟩ := ha.cells
  obtain ⟨v', H', a1, a2, a3, a4⟩ := BufG.add (mk := cy) (fun _ => rfl) (fun _ => rfl) (z := [.int .u8 0]) rfl (sz := 1) (by omega) (v := .emp) (l := []) (.inl ⟨rfl, rfl⟩) hr (by simpa using hl)
  exact ⟨v', H', a1, a2, a3, fun i hi => (a4 i hi).resolve_left (by simp [kblk])⟩
theorem gather2 {v b : GV} {l m : List UInt8} {H : Heap} (hv : BufG cy v l H) (hb : Bytes b m H) (hl : l.length + m.length ≤ 4194304) : ∃ v1 H1, kapp [.int .u8 0] 1 1 v b H = some (v1, H1) ∧ BufG cy v1 (l ++ m) H1 ∧ Fr (kblk v) H H1 ∧ ∀ i ∈ kblk v1, i ∈ kblk v ∨ H.length ≤ i := by
  obtain ⟨r, hr⟩ := hb.cells
  exact BufG.add (mk := cy) (fun _ => rfl) (fun _ => rfl) (z := [.int .u8 0]) rfl (sz := 1) (by omega) hv hr hl
theorem lit1 {c : UInt8} {H : Heap} : Bytes (.sl H.length 0 1 1 1) [c] (H ++ [[.int .u8 (c.toNat : Int)]]) := Bytes.of (.inr ⟨H.length, rfl, by simp⟩)

theorem bytes_l15 {p : Nat} {code : List UInt8} (hl : code.length ≤ 1048576) (k : Nat) (v2 v3 : GV) (N0 : Nat) (hp : p < N0) : ∀ (n r : Nat), n < r → n ≤ 1000 → ∀ (v : GV) (l : List UInt8) (H : Heap), N0 ≤ H.length → Cur p code H → BufG cy v l H → (∀ i ∈ kblk v, N0 ≤ i) → l.length + n ≤ 4000 →
    ∃ v' l' H', (∀ {Q : Type} (G : KT4 Q), S.spec_l1DrawBytes.l15 k G r (.ptr p 0 3) v2 v3 v (.int .i64 (n : Nat)) H = G (.ext 0) (.ptr p 0 3) v2 v3 v' H') ∧ BufG cy v' l' H' ∧ l'.length ≤ l.length + n ∧ Cur p code H' ∧ Sm p N0 H H' ∧ ∀ i ∈ kblk v', N0 ≤ i
  | 0, r + 1, _, _, v, l, H, hN, hc, hb, hk, _ => by
    refine ⟨v, l, H, fun G => ?_, hb, by omega, hc, Sm.refl, hk⟩
    simp [S.spec_l1DrawBytes.l15]
  | n + 1, r + 1, hr, hn, v, l, H, hN, hc, hb, hk, hx => by
    obtain ⟨x, H1, e1, _, _, d1⟩ := spec_l1Byte_spec hl hc
    obtain ⟨c, cv⟩ := kconv8 x
    have l1 := d1.2.1
    obtain ⟨x2, H2, q, g, e2, k1, k2, ⟨y, rfl⟩, d2⟩ := draw_tab hl d1.1 (P := fun g => ∃ y : UInt8, g = .int .u8 (y.toNat : Int)) (T := [(.int .u8 128), (.int .u8 194), (.int .u8 228), (.int .u8 240), (.int .u8 255), (.int .u8 237), (.int .u8 160), (.int .u8 192), .int .u8 (c.toNat : Int)]) (by
      intro g hg
      simp only [List.mem_cons, List.not_mem_nil, or_false] at hg
      rcases hg with rfl | rfl | rfl | rfl | rfl | rfl | rfl | rfl | rfl
      · exact ⟨128, rfl⟩
      · exact ⟨194, rfl⟩
      · exact ⟨228, rfl⟩
      · exact ⟨240, rfl⟩
      · exact ⟨255, rfl⟩
      · exact ⟨237, rfl⟩
      · exact ⟨160, rfl⟩
      · exact ⟨192, rfl⟩
      · exact ⟨c, rfl⟩) (n := 9) rfl (by decide) (m := 9) rfl
    have l2 := d2.2.1
    have np : ∀ i ∈ kblk v, i ∉ [p] := fun i hi hm => by have := hk i hi; simp at hm; omega
    have hb2 : BufG cy v l H2 := (hb.keep d1.2 np).keep d2.2 np
    have hb3 : BufG cy v l (H2 ++ [[.int .u8 (y.toNat : Int)]]) := hb2.keep (R := []) Fr.app fun i _ h => by cases h
    obtain ⟨v', H3, a1, a2, a3, a4⟩ := gather2 hb3 (lit1 (c := y) (H := H2)) (by simp; omega)
    have np' : p ∉ kblk v := fun hm => by have := hk p hm; omega
    have c3 : Cur p code H3 := d2.1.app.keep a3 np'
    have l3 := a3.1
    simp only [List.length_append, List.length_singleton] at l3 a4
    obtain ⟨v'', l', H4, b1, b2, b3, b4, b5, b6⟩ := bytes_l15 hl k v2 v3 N0 hp n r (by omega) (by omega) v' (l ++ [y]) H3 (by omega) c3 a2 (fun i hi => by rcases a4 i hi with h | h; exact hk i h; omega) (by simp; omega)
    refine ⟨v'', l', H4, fun G => ?_, b2, by simp at b3; omega, b4, ?_, b6⟩
    · rw [← b1 G]
      have gt : kbin .gtr (.int .i64 ((n + 1 : Nat) : Int)) (.int .i64 0) = some (.bool true) := by rw [kbin_gtr, decide_eq_true (by omega)]
      have sb : kbin .sub (.int .i64 ((n + 1 : Nat) : Int)) (.int .i64 1) = some (.int .i64 (n : Nat)) := by rw [kbin_sub, wrap_id (by omega) (by omega)]; congr 2; omega
      have gf1 : gfill (fun i => some (i, 1)) (zeros [(.int .u8 0)] 9) [(0, (.int .u8 128)), (1, (.int .u8 194)), (2, (.int .u8 228)), (3, (.int .u8 240)), (4, (.int .u8 255)), (5, (.int .u8 237)), (6, (.int .u8 160)), (7, (.int .u8 192)), (8, .int .u8 (c.toNat : Int))] = some [(.int .u8 128), (.int .u8 194), (.int .u8 228), (.int .u8 240), (.int .u8 255), (.int .u8 237), (.int .u8 160), (.int .u8 192), .int .u8 (c.toNat : Int)] := by rfl
      have gf : gfill (fun i => some (i, 1)) (zeros [(.int .u8 0)] 1) [(0, .int .u8 (y.toNat : Int))] = some [GV.int .u8 (y.toNat : Int)] := by rfl
      generalize GV.int .i64 ((n + 1 : Nat) : Int) = J' at *
      generalize GV.int .i64 (n : Nat) = J at *
      generalize GV.int .i64 x = X at *
      generalize GV.int .u8 (c.toNat : Int) = C at *
      generalize GV.int .u8 (y.toNat : Int) = Y at *
      simp [S.spec_l1DrawBytes.l15, gt, e1, cv, gf1, kbs_at', e2, k1, k2, gf, a1, sb, -kia_sl]
    · refine Sm.trans (Sm.trans (Sm.trans (Sm.of d1.2 hN ?_) (Sm.of d2.2 (by omega) ?_)) ?_) b5
      · intro i hi; simp at hi; exact .inl hi
      · intro i hi; simp at hi; exact .inl hi
      · exact (Sm.of (N0 := N0) (p := p) (R := []) Fr.app (by omega) (by intro i hi; cases hi)).trans (Sm.of a3 (by simp; omega) fun i hi => .inr (hk i hi))

theorem bor_runes {v : GV} {xs : List Int} {H : Heap} (hb : BufG ci v xs H) : bors H [v] = some [fzl true 1 ci xs] := by
  obtain ⟨r, hr⟩ := hb.bor (fun _ => rfl) (fun _ => rfl)
  rw [bors_cons, hr]; rfl
theorem spec_l1DrawBytes_spec {p : Nat} {code : List UInt8} {H : Heap} (hl : code.length ≤ 1048576) (hc : Cur p code H) : ∃ (l : List UInt8) (H' : Heap), HH fn.spec_l1DrawBytes [.ptr p 0 3] H = some (.str (bs l), H') ∧ l.length ≤ 100 ∧ Dr p code H H' := by
  obtain ⟨v, xs, H1, e1, b1, x1, d1⟩ := spec_l1DrawRunes_spec hl hc
  obtain ⟨s, e2, hs⟩ := spec_Text_spec xs (by omega)
  have t1 : kN NN fn.spec_Text [v] H1 = some (.str (bs s)) := kN_at (bor_runes b1) e2
  obtain ⟨b, H2, e3, d2⟩ := spec_l1Once_spec hl d1.1 2
  cases b
  · refine ⟨s, H2, ?_, by omega, d1.trans d2⟩
    apply S.spec_l1DrawBytes.gives (k := 0)
    generalize GV.str (bs s) = Z at *
    simp [S.spec_l1DrawBytes.run, e1, t1, e3, finH, -kN_eq]
  have d12 := d1.trans d2
  have kb0 : ∀ {R : Type} (H : Heap) (K : GV → Heap → Option R), kby (bs s) H K = K (.sl H.length 0 s.length s.length 1) (H ++ [s.flatMap cy]) := fun H K => by rw [kby_eq, bs_size, kbytes_bs]
  have hc3 : Cur p code (H2 ++ [s.flatMap cy]) := d2.1.app
  obtain ⟨n, H4, e4, hn, d4⟩ := draw_nat hl hc3 (n := 3) (by omega) (m := 3) rfl
  have hlt := hc.lt
  have l12 := d12.2.1
  have l4 := d4.2.1
  simp only [List.length_append, List.length_singleton] at l4
  have bb : BufG cy (.sl H2.length 0 s.length s.length 1) s (H2 ++ [s.flatMap cy]) := .inr ⟨H2.length, rfl, by simp⟩
  have bb4 := bb.keep d4.2 (fun i hi hm => by simp [kblk] at hi hm; omega)
  obtain ⟨v5, l5, H5, f1, f2, f3, f4, f5, f6⟩ := bytes_l15 hl 10 (.str { data := #[] }) (.str (bs s)) H2.length (by omega) n 10 (by omega) (by omega) _ s H4 (by omega) d4.1 bb4 (fun i hi => by simp [kblk] at hi; omega) (by omega)
  have s5 : Sm p H2.length H2 H5 := ((Sm.of (R := []) Fr.app (Nat.le_refl _) (by intro i hi; cases hi)).trans (Sm.of d4.2 (by simp) (by intro i hi; simp at hi; exact .inl hi))).trans f5
  have ks : kstr (.str (bs s)) = some (bs s) := rfl
  have B5 := Bytes.of f2
  have kl := B5.len
  by_cases h0 : l5.length = 0
  · have gt : kbin .gtr (.int .i64 (l5.length : Nat)) (.int .i64 0) = some (.bool false) := by rw [kbin_gtr, decide_eq_false (by omega)]
    refine ⟨l5, H5, ?_, by omega, d12.trans ⟨f4, s5.fr⟩⟩
    have st := B5.str
    apply S.spec_l1DrawBytes.gives (k := 10)
    generalize GV.int .i64 (l5.length : Nat) = L at *
    generalize GV.str (bs l5) = Z5 at *
    generalize GV.str (bs s) = Z at *
    simp [S.spec_l1DrawBytes.run, e1, t1, e3, ks, kb0, e4, f1, kl, gt, st, finH, -kN_eq, -kby_eq]
  · have gt : kbin .gtr (.int .i64 (l5.length : Nat)) (.int .i64 0) = some (.bool true) := by rw [kbin_gtr, decide_eq_true (by omega)]
    obtain ⟨b2, H6, e6, d6⟩ := spec_l1Once_spec hl f4 2
    have np : ∀ i ∈ kblk v5, i ∉ [p] := fun i hi hm => by have := f6 i hi; simp at hm; omega
    have B6 := B5.keep d6.2 np
    cases b2
    · refine ⟨l5, H6, ?_, by omega, d12.trans (Dr.trans ⟨f4, s5.fr⟩ d6)⟩
      have st := B6.str
      apply S.spec_l1DrawBytes.gives (k := 10)
      generalize GV.int .i64 (l5.length : Nat) = L at *
      generalize GV.str (bs l5) = Z5 at *
      generalize GV.str (bs s) = Z at *
      simp [S.spec_l1DrawBytes.run, e1, t1, e3, ks, kb0, e4, f1, kl, gt, e6, st, finH, -kN_eq, -kby_eq]
    · obtain ⟨m, H7, e7, hm, d7⟩ := draw_nat hl d6.1 (n := l5.length) (by omega) (m := (l5.length : Nat)) rfl
      have B7 := B6.keep d7.2 np
      obtain ⟨a, sa, Ba, ka⟩ := B7.from (k := m) (by omega)
      obtain ⟨b, sb, Bb, kb⟩ := B7.to (k := m) (by omega)
      obtain ⟨v8, H8, g1, g2, g3, g4⟩ := gather1 Ba (by rw [List.length_drop]; omega)
      have Bb8 := Bb.keep g3 (fun i _ h => by cases h)
      obtain ⟨v9, H9, g5, g6, g7, g8⟩ := gather2 g2 Bb8 (by rw [List.length_drop, List.length_take]; omega)
      have l7 := d7.2.1
      have l6 := d6.2.1
      have l8 := g3.1
      have hc8 : Cur p code H8 := d7.1.keep g3 (by simp)
      have hc9 : Cur p code H9 := hc8.keep g7 (fun hm => by have := g4 p hm; have := d7.1.lt; omega)
      have s5' := s5.1
      have st := (Bytes.of g6).str
      refine ⟨l5.drop m ++ l5.take m, H9, ?_, by rw [List.length_append, List.length_drop, List.length_take]; omega, d12.trans (Dr.trans ⟨f4, s5.fr⟩ (d6.trans (d7.trans ⟨hc9, ?_⟩)))⟩
      · apply S.spec_l1DrawBytes.gives (k := 10)
        generalize GV.int .i64 (l5.length : Nat) = L at *
        generalize GV.int .i64 (m : Nat) = M at *
        generalize GV.str (bs (l5.drop m ++ l5.take m)) = Z5 at *
        generalize GV.str (bs s) = Z at *
        simp [S.spec_l1DrawBytes.run, e1, t1, e3, ks, kb0, e4, f1, kl, gt, e6, e7, sa, g1, sb, g5, st, finH, -kN_eq, -kby_eq]
      · have sm : Sm p H7.length H7 H9 := (Sm.of g3 (Nat.le_refl _) (by intro i hi; cases hi)).trans (Sm.of g7 (by omega) fun i hi => .inr (g4 i hi))
        exact sm.fr

/-! A text that is bent. -/
theorem signs_at {signs : List UInt8} {m : Nat} (hm : m < signs.length) : kbyte (.str (bs signs)) (.int .i64 (m : Nat)) = some (.int .u8 (signs[m].toNat : Int)) := kbyte_nat (k := .i64) (l := signs) hm
theorem bend_l6 {p : Nat} {code signs : List UInt8} (hl : code.length ≤ 1048576) (hs0 : 0 < signs.length) (hs1 : signs.length ≤ 1000) (k : Nat) (v6 : GV) (N0 : Nat) (hp : p < N0) : ∀ (n r : Nat), n < r → n ≤ 1000 → ∀ (v : GV) (l : List UInt8) (H : Heap), N0 ≤ H.length → Cur p code H → Bytes v l H → (∀ i ∈ kblk v, N0 ≤ i) → l.length + n ≤ 1048576 →
    ∃ v' l' H', (∀ {Q : Type} (G : KT2 Q), S.spec_l13Bend.l6 k G r (.ptr p 0 3) (.str (bs signs)) v6 v (.int .i64 (n : Nat)) H = G (.ext 0) v6 v' H') ∧ Bytes v' l' H' ∧ l'.length ≤ l.length + n ∧ Cur p code H' ∧ Sm p N0 H H' ∧ ∀ i ∈ kblk v', N0 ≤ i
  | 0, r + 1, _, _, v, l, H, hN, hc, hb, hk, _ => by
    refine ⟨v, l, H, fun G => ?_, hb, by omega, hc, Sm.refl, hk⟩
    simp [S.spec_l13Bend.l6]
  | n + 1, r + 1, hr, hn, v, l, H, hN, hc, hb, hk, hx => by
    have gt : kbin .gtr (.int .i64 ((n + 1 : Nat) : Int)) (.int .i64 0) = some (.bool true) := by rw [kbin_gtr, decide_eq_true (by omega)]
    have sb : kbin .sub (.int .i64 ((n + 1 : Nat) : Int)) (.int .i64 1) = some (.int .i64 (n : Nat)) := by rw [kbin_sub, wrap_id (by omega) (by omega)]; congr 2; omega
    have kl := hb.len
    by_cases h0 : l.length = 0
    · have gl : kbin .gtr (.int .i64 (l.length : Nat)) (.int .i64 0) = some (.bool false) := by rw [kbin_gtr, decide_eq_false (by omega)]
      refine ⟨v, l, H, fun G => ?_, hb, by omega, hc, Sm.refl, hk⟩
      generalize GV.int .i64 ((n + 1 : Nat) : Int) = J' at *
      generalize GV.int .i64 (l.length : Nat) = L at *
      simp [S.spec_l13Bend.l6, gt, kl, gl]
    have gl : kbin .gtr (.int .i64 (l.length : Nat)) (.int .i64 0) = some (.bool true) := by rw [kbin_gtr, decide_eq_true (by omega)]
    obtain ⟨m, H1, e1, hm, d1⟩ := draw_nat hl hc (n := l.length) (by omega) (m := (l.length : Nat)) rfl
    obtain ⟨d, H2, e2, hd, d2⟩ := draw_nat hl d1.1 (n := 4) (by omega) (m := 4) rfl
    have np : ∀ i ∈ kblk v, i ∉ [p] := fun i hi hm => by have := hk i hi; simp at hm; omega
    have l1 := d1.2.1
    have l2 := d2.2.1
    have B2 := (hb.keep d1.2 np).keep d2.2 np
    have s2 : Sm p N0 H H2 := (Sm.of d1.2 hN (by intro i hi; simp at hi; exact .inl hi)).trans (Sm.of d2.2 (by omega) (by intro i hi; simp at hi; exact .inl hi))
    have ksg := klenS_bs signs
    /- what one round leaves -/
    have round : ∃ v1 l1 H3, (∀ {Q : Type} (G : KT2 Q), S.spec_l13Bend.l6 k G (r + 1) (.ptr p 0 3) (.str (bs signs)) v6 v (.int .i64 ((n + 1 : Nat) : Int)) H = S.spec_l13Bend.l6 k G r (.ptr p 0 3) (.str (bs signs)) v6 v1 (.int .i64 (n : Nat)) H3) ∧ Bytes v1 l1 H3 ∧ l1.length ≤ l.length + 1 ∧ Cur p code H3 ∧ Sm p N0 H H3 ∧ ∀ i ∈ kblk v1, N0 ≤ i := by
      have hd4 : d = 0 ∨ d = 1 ∨ d = 2 ∨ d = 3 := by omega
      rcases hd4 with rfl | rfl | rfl | rfl
      · obtain ⟨x, H3, e3, hx3, d3⟩ := draw_nat hl d2.1 (n := signs.length) hs0 (m := (signs.length : Nat)) rfl
        have kb := signs_at hx3
        have B3 := B2.keep d3.2 np
        have l3 := d3.2.1
        obtain ⟨q, H4, k1, k2, B4, f4⟩ := B3.set (k := m) hm (c := signs[x])
        have c4 : Cur p code H4 := d3.1.keep f4 (fun hm => np _ hm (by simp))
        refine ⟨v, _, H4, fun G => ?_, B4, by rw [List.length_set]; omega, c4, (s2.trans (Sm.of d3.2 (by omega) (by intro i hi; simp at hi; exact .inl hi))).trans (Sm.of f4 (by omega) fun i hi => .inr (hk i hi)), hk⟩
        generalize GV.int .i64 ((n + 1 : Nat) : Int) = J' at *
        generalize GV.int .i64 (n : Nat) = J at *
        generalize GV.int .i64 (l.length : Nat) = L at *
        generalize GV.int .i64 (m : Nat) = M at *
        generalize GV.int .i64 (signs.length : Nat) = LS at *
        generalize GV.int .i64 (x : Nat) = X at *
        generalize GV.int .u8 (signs[x].toNat : Int) = Y at *
        generalize GV.str (bs signs) = Z at *
        simp [S.spec_l13Bend.l6, gt, kl, gl, e1, e2, ksg, e3, kb, k1, k2, sb, -kia_sl, -kstore_ptr]
      · obtain ⟨a, sa, Ba, ka⟩ := B2.to (k := m) (by omega)
        refine ⟨a, _, H2, fun G => ?_, Ba, by rw [List.length_take]; omega, d2.1, s2, by rw [ka]; exact hk⟩
        generalize GV.int .i64 ((n + 1 : Nat) : Int) = J' at *
        generalize GV.int .i64 (n : Nat) = J at *
        generalize GV.int .i64 (l.length : Nat) = L at *
        generalize GV.int .i64 (m : Nat) = M at *
        generalize GV.str (bs signs) = Z at *
        simp [S.spec_l13Bend.l6, gt, kl, gl, e1, e2, sa, sb]
      · obtain ⟨a, sa, Ba, ka⟩ := B2.to (k := m) (by omega)
        obtain ⟨v3, H3, g1, g2, g3, g4⟩ := gather1 Ba (by rw [List.length_take]; omega)
        have B3 := B2.keep g3 (fun i _ h => by cases h)
        obtain ⟨b, sb', Bb, kb'⟩ := B3.from (k := m + 1) (by omega)
        obtain ⟨v4, H4, g5, g6, g7, g8⟩ := gather2 g2 Bb (by rw [List.length_take, List.length_drop]; omega)
        have l3 := g3.1
        have c3 : Cur p code H3 := d2.1.keep g3 (by simp)
        have lt2 := d2.1.lt
        have c4 : Cur p code H4 := c3.keep g7 (fun hm => by have := g4 p hm; omega)
        have ad : kbin .add (.int .i64 (m : Nat)) (.int .i64 1) = some (.int .i64 ((m + 1 : Nat) : Int)) := by rw [kbin_add, wrap_id (by omega) (by omega)]; rfl
        refine ⟨v4, _, H4, fun G => ?_, Bytes.of g6, by rw [List.length_append, List.length_take, List.length_drop]; omega, c4, (s2.trans (Sm.of g3 (by omega) (by intro i hi; cases hi))).trans (Sm.of g7 (by omega) fun i hi => .inr (by have := g4 i hi; omega)), fun i hi => by rcases g8 i hi with h | h; exact Nat.le_trans (by omega) (g4 i h); omega⟩
        generalize GV.int .i64 ((n + 1 : Nat) : Int) = J' at *
        generalize GV.int .i64 (n : Nat) = J at *
        generalize GV.int .i64 (l.length : Nat) = L at *
        generalize GV.int .i64 ((m + 1 : Nat) : Int) = M' at *
        generalize GV.int .i64 (m : Nat) = M at *
        generalize GV.str (bs signs) = Z at *
        simp [S.spec_l13Bend.l6, gt, kl, gl, e1, e2, sa, g1, ad, sb', g5, sb]
      · obtain ⟨a, sa, Ba, ka⟩ := B2.to (k := m) (by omega)
        obtain ⟨v3, H3, g1, g2, g3, g4⟩ := gather1 Ba (by rw [List.length_take]; omega)
        have l3 := g3.1
        have lt2 := d2.1.lt
        have B3 := B2.keep g3 (fun i _ h => by cases h)
        have c3 : Cur p code H3 := d2.1.keep g3 (by simp)
        obtain ⟨x, H4, e4, hx4, d4⟩ := draw_nat hl c3 (n := signs.length) hs0 (m := (signs.length : Nat)) rfl
        have kb := signs_at hx4
        have l4 := d4.2.1
        have np3 : ∀ i ∈ kblk v3, i ∉ [p] := fun i hi hm => by have := g4 i hi; simp at hm; omega
        have B4 := B3.keep d4.2 np
        have G4 := g2.keep d4.2 np3
        have G5 : BufG cy v3 (l.take m) (H4 ++ [[.int .u8 (signs[x].toNat : Int)]]) := G4.keep (R := []) Fr.app fun i _ h => by cases h
        have B5 : Bytes v l (H4 ++ [[.int .u8 (signs[x].toNat : Int)]]) := B4.keep (R := []) Fr.app fun i _ h => by cases h
        obtain ⟨v5, H5, q1, q2, q3, q4⟩ := gather2 G5 (lit1 (c := signs[x]) (H := H4)) (by rw [List.length_take]; simp; omega)
        have nv : ∀ i ∈ kblk v, i ∉ kblk v3 := fun i hi hm => by have := B2.lt i hi; have := g4 i hm; omega
        have B6 := B5.keep q3 nv
        obtain ⟨b, sb', Bb, kb'⟩ := B6.from (k := m) (by omega)
        obtain ⟨v6', H6, q5, q6, q7, q8⟩ := gather2 q2 Bb (by rw [List.length_append, List.length_take, List.length_drop]; simp; omega)
        have l5 := q3.1
        simp only [List.length_append, List.length_singleton] at l5 q4
        have l6 := q7.1
        have k5 : ∀ i ∈ kblk v5, H2.length ≤ i := fun i hi => by rcases q4 i hi with h | h; exact g4 i h; omega
        have c5 : Cur p code H5 := d4.1.app.keep q3 (fun hm => np3 _ hm (by simp))
        have c6 : Cur p code H6 := c5.keep q7 (fun hm => by have := k5 p hm; omega)
        have gf : gfill (fun i => some (i, 1)) (zeros [(.int .u8 0)] 1) [(0, .int .u8 (signs[x].toNat : Int))] = some [GV.int .u8 (signs[x].toNat : Int)] := by rfl
        refine ⟨v6', _, H6, fun G => ?_, Bytes.of q6, by rw [List.length_append, List.length_append, List.length_take, List.length_drop]; simp; omega, c6, ?_, fun i hi => by rcases q8 i hi with h | h; exact Nat.le_trans (by omega) (k5 i h); omega⟩
        · generalize GV.int .i64 ((n + 1 : Nat) : Int) = J' at *
          generalize GV.int .i64 (n : Nat) = J at *
          generalize GV.int .i64 (l.length : Nat) = L at *
          generalize GV.int .i64 (m : Nat) = M at *
          generalize GV.int .i64 (signs.length : Nat) = LS at *
          generalize GV.int .i64 (x : Nat) = X at *
          generalize GV.int .u8 (signs[x].toNat : Int) = Y at *
          generalize GV.str (bs signs) = Z at *
          simp [S.spec_l13Bend.l6, gt, kl, gl, e1, e2, sa, g1, ksg, e4, kb, gf, kbs_at', q1, sb', q5, sb]
        · exact ((((s2.trans (Sm.of g3 (by omega) (by intro i hi; cases hi))).trans (Sm.of d4.2 (by omega) (by intro i hi; simp at hi; exact .inl hi))).trans (Sm.of (R := []) Fr.app (by omega) (by intro i hi; cases hi))).trans (Sm.of q3 (by simp; omega) fun i hi => .inr (by have := g4 i hi; omega))).trans (Sm.of q7 (by omega) fun i hi => .inr (by have := k5 i hi; omega))
    obtain ⟨v1, l1', H3, r1, r2, r3, r4, r5, r6⟩ := round
    have l3 := r5.1
    obtain ⟨v', l', H4, b1, b2, b3, b4, b5, b6⟩ := bend_l6 hl hs0 hs1 k v6 N0 hp n r (by omega) (by omega) v1 l1' H3 (by omega) r4 r2 r6 (by omega)
    exact ⟨v', l', H4, fun G => (r1 G).trans (b1 G), b2, by omega, b4, r5.trans b5, b6⟩
theorem spec_l13Bend_spec {p : Nat} {code s signs : List UInt8} {H : Heap} (hl : code.length ≤ 1048576) (hc : Cur p code H) (hs : s.length ≤ 1000000) (hs0 : 0 < signs.length) (hs1 : signs.length ≤ 1000) : ∃ (l : List UInt8) (H' : Heap), HH fn.spec_l13Bend [.ptr p 0 3, .str (bs s), .str (bs signs)] H = some (.str (bs l), H') ∧ l.length ≤ s.length + 2 ∧ Dr p code H H' := by
  have kb0 : ∀ {R : Type} (H : Heap) (K : GV → Heap → Option R), kby (bs s) H K = K (.sl H.length 0 s.length s.length 1) (H ++ [s.flatMap cy]) := fun H K => by rw [kby_eq, bs_size, kbytes_bs]
  have hc1 : Cur p code (H ++ [s.flatMap cy]) := hc.app
  obtain ⟨n, H2, e2, hn, d2⟩ := draw_nat hl hc1 (n := 3) (by omega) (m := 3) rfl
  have hlt := hc.lt
  have l2 := d2.2.1
  simp only [List.length_append, List.length_singleton] at l2
  have bb : BufG cy (.sl H.length 0 s.length s.length 1) s (H ++ [s.flatMap cy]) := .inr ⟨H.length, rfl, by simp⟩
  have bb2 := bb.keep d2.2 (fun i hi hm => by simp [kblk] at hi hm; omega)
  obtain ⟨v5, l5, H5, f1, f2, f3, f4, f5, f6⟩ := bend_l6 hl hs0 hs1 10 (.str { data := #[] }) H.length hlt n 10 (by omega) (by omega) _ s H2 (by omega) d2.1 (Bytes.of bb2) (fun i hi => by simp [kblk] at hi; omega) (by omega)
  have s5 : Sm p H.length H H5 := ((Sm.of (R := []) Fr.app (Nat.le_refl _) (by intro i hi; cases hi)).trans (Sm.of d2.2 (by simp) (by intro i hi; simp at hi; exact .inl hi))).trans f5
  have ks : kstr (.str (bs s)) = some (bs s) := rfl
  have st := f2.str
  refine ⟨l5, H5, ?_, by omega, f4, s5.fr⟩
  apply S.spec_l13Bend.gives (k := 10)
  generalize GV.str (bs l5) = Z5 at *
  generalize GV.str (bs signs) = Z1 at *
  generalize GV.str (bs s) = Z at *
  simp [S.spec_l13Bend.run, ks, kb0, e2, f1, st, finH, -kby_eq]
end Go.Proofs.YtklhdbkaejbajaaDoor.G
