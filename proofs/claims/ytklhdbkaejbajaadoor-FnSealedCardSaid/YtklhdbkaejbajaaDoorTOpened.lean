/- Opened: both answer with the count and the text that the key opens the text to, if there are any. -/
import Derived.Test.YtklhdbkaejbajaaDoorTCut
import Derived.Test.YtklhdbkaejbajaaDoorSB
namespace Go.Proofs.YtklhdbkaejbajaaDoor.G
open Go.RowKit Go.Lib
set_option linter.unusedVariables false
set_option linter.unusedSimpArgs false

theorem Opens.cuts {key d : List UInt8} {c : Int} {t : List UInt8} (h : Opens key d c t) :
    ∃ B X, d = itoa c ++ 32 :: (B ++ 32 :: X) ∧ (32 : UInt8) ∉ B ∧ cut d [32] = (itoa c, B ++ 32 :: X, true) ∧ cut (B ++ 32 :: X) [32] = (B, X, true) ∧ parseIntB 64 (itoa c) = .ok c ∧ 0 ≤ c ∧ c ≤ 1099511627776 ∧ toldP key c X.length = true ∧ xorL X (streamM key c X.length) = t := by
  obtain ⟨B, X, h1, h2, h3, h4⟩ := h.parts
  have h5 := told_of h.1
  refine ⟨B, X, h1, h2, ?_, cut_hit h2, parse_itoa (by omega) (by omega), h5.2.1, h5.2.2.1, by rw [h3]; exact h.1, h4⟩
  rw [h1]
  exact cut_hit itoa_nosp
theorem Opens.uniq {key d : List UInt8} {c c' : Int} {t t' : List UInt8} (h : Opens key d c t) (h' : Opens key d c' t') : c = c' ∧ t = t' := by
  obtain ⟨B, X, _, _, a1, a2, a3, _, _, a4, a5⟩ := h.cuts
  obtain ⟨B', X', _, _, b1, b2, b3, _, _, b4, b5⟩ := h'.cuts
  rw [a1, Prod.mk.injEq, Prod.mk.injEq] at b1
  obtain ⟨e1, e2, _⟩ := b1
  rw [← e1, a3] at b3
  cases b3
  rw [← e2, a2, Prod.mk.injEq, Prod.mk.injEq] at b2
  obtain ⟨_, e3, _⟩ := b2
  subst e3
  exact ⟨rfl, a5.symm.trans b5⟩

/-- What both answer. -/
def Answers (f : FuncId) (key d : List UInt8) : Prop :=
  (∃ c t, Opens key d c t ∧ NN f [.str (bs key), .str (bs d)] = some (.tup [.int .i64 c, .str (bs t), .bool true])) ∨
  ((∀ c t, ¬ Opens key d c t) ∧ NN f [.str (bs key), .str (bs d)] = some (.tup [.int .i64 (-1), .str { data := #[] }, .bool false]))

theorem impl_Opened_spec (key d : List UInt8) (hk : key.length ≤ 1048576) (hd : d.length ≤ 1048576) : Answers fn.impl_Opened key d := by
  obtain ⟨h1, r1, ok1, hq1⟩ : ∃ a b c, cut d [32] = (a, b, c) := ⟨_, _, _, rfl⟩
  obtain ⟨h2, b2, ok2, hq2⟩ : ∃ a b c, cut r1 [32] = (a, b, c) := ⟨_, _, _, rfl⟩
  have l1 := cut_len d [32]
  rw [hq1] at l1
  have l2 := cut_len r1 [32]
  rw [hq2] at l2
  simp only at l1 l2
  obtain ⟨n, ev, hp, hpp⟩ := pi_spec h1 (by omega)
  have c1 : ∀ H, kN NN fn.strings_Cut [.str (bs d), .str { data := #[32] }] H = some (.tup [.str (bs h1), .str (bs r1), .bool ok1]) := fun H => kN_at (xs := [.str (bs d), .str { data := #[32] }]) (by simp) (by rw [cut_spec d hd, hq1])
  have c2 : ∀ H, kN NN fn.strings_Cut [.str (bs r1), .str { data := #[32] }] H = some (.tup [.str (bs h2), .str (bs b2), .bool ok2]) := fun H => kN_at (xs := [.str (bs r1), .str { data := #[32] }]) (by simp) (by rw [cut_spec r1 (by omega), hq2])
  have p1 : ∀ H, kN NN fn.strconv_ParseInt [.str (bs h1), .int .i64 10, .int .i64 64] H = _ := fun H => kN_at (by simp) hp
  have s1 : ∀ H, kN NN fn.impl_isSeal [.str (bs key), .int .i64 n, .int .i64 (b2.length : Nat)] H = _ := fun H => kN_at (by simp) (impl_isSeal_spec key n b2.length)
  have kl := klenS_bs b2
  have hop : ∀ c t, Opens key d c t → ok1 = true ∧ ok2 = true ∧ ev = .nili ∧ c = n ∧ toldP key n b2.length = true ∧ t = xorL b2 (streamM key n b2.length) := fun c t h => by
    obtain ⟨B, X, _, _, a1, a2, a3, _, _, a4, a5⟩ := h.cuts
    rw [hq1, Prod.mk.injEq, Prod.mk.injEq] at a1
    obtain ⟨rfl, rfl, rfl⟩ := a1
    rw [hq2, Prod.mk.injEq, Prod.mk.injEq] at a2
    obtain ⟨rfl, rfl, rfl⟩ := a2
    rcases hpp with ⟨g1, g2⟩ | ⟨_, g2⟩
    · rw [a3] at g2
      cases g2
      exact ⟨rfl, rfl, g1, rfl, a4, a5.symm⟩
    · exact absurd a3 (g2 _)
  have fF : ∀ H, finN (.tup [.int .i64 (-1), .str { data := #[] }, .bool false]) H = some (.tup [.int .i64 (-1), .str { data := #[] }, .bool false]) := fun H => rfl
  by_cases hall : ok1 = true ∧ ok2 = true ∧ ev = .nili ∧ toldP key n b2.length = true
  case neg =>
    refine .inr ⟨fun c t h => hall (by obtain ⟨g1, g2, g3, _, g4, _⟩ := hop c t h; exact ⟨g1, g2, g3, g4⟩), ?_⟩
    apply S.impl_Opened.gives (k := 0)
    have hev : ev = .nili ∨ ev = .ifc := by rcases hpp with ⟨g, _⟩ | ⟨g, _⟩ <;> simp [g]
    obtain ⟨T, hT⟩ : ∃ T, toldP key n b2.length = T := ⟨_, rfl⟩
    rw [hT] at hall s1
    generalize GV.str (bs key) = L at *
    generalize GV.str (bs d) = D at *
    generalize GV.str (bs h1) = E1 at *
    generalize GV.str (bs r1) = E2 at *
    generalize GV.str (bs h2) = E3 at *
    generalize GV.str (bs b2) = E4 at *
    rcases hev with rfl | rfl <;> cases ok1 <;> cases ok2 <;> cases T <;> first | simp at hall; done | simp [S.impl_Opened.run, c1, c2, p1, s1, kl, ne_nil, ne_ifc, fF, -kN_eq]
  obtain ⟨rfl, rfl, rfl, hT⟩ := hall
  rw [hT] at s1
  have hsl := stream_len hT
  have hxl := xorL_len (l := b2) hsl
  have x1 : ∀ H, kN NN fn.impl_xored [.str (bs key), .int .i64 n, .str (bs b2)] H = _ := fun H => kN_at (by simp) (impl_xored_spec key n b2 hk (by omega) hT)
  have e1 : ∀ H, kN NN fn.impl_Sealed [.str (bs key), .int .i64 n, .str (bs (xorL b2 (streamM key n b2.length)))] H = _ := fun H => kN_at (by simp) (impl_Sealed_spec key n (xorL b2 (streamM key n b2.length)) hk (by rw [hxl]; omega))
  have ne : kbin .neq (.str (bs (sealM key n (xorL b2 (streamM key n b2.length))))) (.str (bs d)) = some (.bool (decide (sealM key n (xorL b2 (streamM key n b2.length)) ≠ d))) := by
    rw [kbin_sneq]; simp only [ne_eq, bs_inj]
  have run : NN fn.impl_Opened [.str (bs key), .str (bs d)] = if sealM key n (xorL b2 (streamM key n b2.length)) = d then some (.tup [.int .i64 n, .str (bs (xorL b2 (streamM key n b2.length))), .bool true]) else some (.tup [.int .i64 (-1), .str { data := #[] }, .bool false]) := by
    have fT : ∀ H, finN (.tup [.int .i64 n, .str (bs (xorL b2 (streamM key n b2.length))), .bool true]) H = some (.tup [.int .i64 n, .str (bs (xorL b2 (streamM key n b2.length))), .bool true]) := fun H => rfl
    generalize GV.str (bs (sealM key n (xorL b2 (streamM key n b2.length)))) = Y at *
    generalize sealM key n (xorL b2 (streamM key n b2.length)) = Q at *
    generalize GV.str (bs (xorL b2 (streamM key n b2.length))) = X at *
    generalize GV.str (bs key) = L at *
    generalize GV.str (bs d) = D at *
    generalize GV.str (bs h1) = E1 at *
    generalize GV.str (bs r1) = E2 at *
    generalize GV.str (bs h2) = E3 at *
    generalize GV.str (bs b2) = E4 at *
    by_cases he : Q = d
    · rw [if_pos he]
      apply S.impl_Opened.gives (k := 0)
      simp [S.impl_Opened.run, c1, c2, p1, s1, kl, ne_nil, x1, e1, ne, he, fT, -kN_eq]
    · rw [if_neg he]
      apply S.impl_Opened.gives (k := 0)
      simp [S.impl_Opened.run, c1, c2, p1, s1, kl, ne_nil, x1, e1, ne, he, fF, -kN_eq]
  by_cases he : sealM key n (xorL b2 (streamM key n b2.length)) = d
  · exact .inl ⟨n, _, ⟨by rw [hxl]; exact hT, he⟩, by rw [run, if_pos he]⟩
  · refine .inr ⟨fun c t h => he ?_, by rw [run, if_neg he]⟩
    obtain ⟨_, _, _, rfl, _, rfl⟩ := hop c t h
    exact h.2

theorem l21_all {R : Type} (k : Nat) (G : KT7 R) (d : List UInt8) (v0 v4 v5 v6 : GV) (H : Heap) (m : Nat) (hd : d.length ≤ 1048576) (hm : (lead 14 d).length < m) :
    S.spec_Opened.l21 k G m v0 (.str (bs d)) v4 v5 v6 (.int .i64 0) (.int .i64 0) H = G (.ext 0) v0 (.str (bs d)) v4 v5 v6 (.int .i64 (valM (lead 14 d))) (.int .i64 ((lead 14 d).length : Nat)) H := by
  have kl := klenS_bs d
  have key := loopTo (n := (lead 14 d).length) (m := m) (f := fun r j => S.spec_Opened.l21 k G r v0 (.str (bs d)) v4 v5 v6 (.int .i64 (valM ((lead 14 d).take j))) (.int .i64 (j : Nat)) H) (A := G (.ext 0) v0 (.str (bs d)) v4 v5 v6 (.int .i64 (valM (lead 14 d))) (.int .i64 ((lead 14 d).length : Nat)) H)
    (fun j r hj => by
      obtain ⟨g1, g2, g3, g4⟩ := lead_lt 14 d j hj
      have kb := kbyte_nat (k := .i64) (l := d) g1
      obtain ⟨b1, b2⟩ := valM_small (lead_dig 14 d) (j := j) (by omega) (by omega)
      have e := valM_take (l := lead 14 d) hj
      rw [g4] at e
      simp only [isDig, Bool.and_eq_true, decide_eq_true_eq] at g2
      obtain ⟨x, hx⟩ : ∃ x : Int, x = (d[j].toNat : Int) := ⟨_, rfl⟩
      rw [← hx] at kb g2 e
      have w1 : IntKind.i64.wrap ((j : Int) + 1) = (j : Int) + 1 := wrap_id (by omega) (by omega)
      have w2 : IntKind.i64.wrap (valM ((lead 14 d).take j) * 10) = valM ((lead 14 d).take j) * 10 := wrap_id (by omega) (by omega)
      have w3 : IntKind.u8.wrap (x - 48) = x - 48 := wrap8 (by omega) (by omega)
      have w4 : IntKind.i64.wrap (x - 48) = x - 48 := wrap_id (by omega) (by omega)
      have w5 : IntKind.i64.wrap (valM ((lead 14 d).take j) * 10 + (x - 48)) = valM ((lead 14 d).take (j + 1)) := by rw [e]; exact wrap_id (by omega) (by omega)
      have f1 : (j : Int) < d.length := by omega
      have f2 : (j : Int) < 14 := by omega
      generalize valM ((lead 14 d).take (j + 1)) = V' at *
      generalize valM ((lead 14 d).take j) = V at *
      generalize GV.str (bs d) = D at *
      simp [S.spec_Opened.l21, kl, kb, w1, w2, w3, w4, w5, f1, f2, g2])
    (fun r => by
      rw [List.take_length]
      have hl := lead_len 14 d
      obtain ⟨n, hn⟩ : ∃ n, (lead 14 d).length = n := ⟨_, rfl⟩
      have hend := lead_end 14 d
      rw [hn] at hl ⊢
      generalize valM (lead 14 d) = V at *
      by_cases f1 : (n : Int) < d.length
      · by_cases f2 : (n : Int) < 14
        · have hlt : n < d.length := by omega
          have hdg : isDig (d[n]) = false := by
            rcases hend with h | h | ⟨h1, h2⟩
            · omega
            · omega
            · simpa only [hn] using h2
          have kb := kbyte_nat (k := .i64) (l := d) hlt
          simp only [isDig, Bool.and_eq_false_iff, decide_eq_false_iff_not] at hdg
          obtain ⟨x, hx⟩ : ∃ x : Int, x = (d[n].toNat : Int) := ⟨_, rfl⟩
          rw [← hx] at kb hdg
          generalize GV.str (bs d) = D at *
          by_cases f3 : 48 ≤ x
          · have f4 : ¬ x ≤ 57 := by omega
            simp [S.spec_Opened.l21, kl, kb, f1, f2, f3, f4]
          · simp [S.spec_Opened.l21, kl, kb, f1, f2, f3]
        · generalize GV.str (bs d) = D at *
          simp [S.spec_Opened.l21, kl, f1, f2]
      · generalize GV.str (bs d) = D at *
        simp [S.spec_Opened.l21, kl, f1]) hm
  simpa [valM] using key
theorem l12_all {R : Type} (k : Nat) (G : KT8 R) (d : List UInt8) (a : Nat) (v0 v4 v5 v6 v7 v8 : GV) (H : Heap) (m : Nat) (hd : d.length ≤ 1048576) (ha : a ≤ 100) (hm : spc (d.drop a) < m) :
    S.spec_Opened.l12 k G m v0 (.str (bs d)) v4 v5 v6 v7 v8 (.int .i64 (a : Nat)) H = G (.ext 2) v0 (.str (bs d)) v4 v5 v6 v7 v8 (.int .i64 ((a + spc (d.drop a) : Nat) : Int)) H := by
  have kl := klenS_bs d
  have key := loopTo (n := spc (d.drop a)) (m := m) (f := fun r j => S.spec_Opened.l12 k G r v0 (.str (bs d)) v4 v5 v6 v7 v8 (.int .i64 ((a + j : Nat) : Int)) H) (A := G (.ext 2) v0 (.str (bs d)) v4 v5 v6 v7 v8 (.int .i64 ((a + spc (d.drop a) : Nat) : Int)) H)
    (fun j r hj => by
      obtain ⟨g1, g2⟩ := spc_lt _ j hj
      rw [List.length_drop] at g1
      rw [List.getElem_drop] at g2
      have kb := kbyte_nat (k := .i64) (l := d) (i := a + j) (by omega)
      have g3 : (d[a + j].toNat : Int) ≠ 32 := fun e => g2 (UInt8.toNat_inj.1 (show d[a + j].toNat = 32 by omega))
      obtain ⟨x, hx⟩ : ∃ x : Int, x = (d[a + j].toNat : Int) := ⟨_, rfl⟩
      rw [← hx] at kb g3
      have w1 : IntKind.i64.wrap (((a + j : Nat) : Int) + 1) = ((a + (j + 1) : Nat) : Int) := by rw [wrap_id] <;> omega
      have f1 : ((a + j : Nat) : Int) < d.length := by omega
      generalize GV.str (bs d) = D at *
      generalize ((a + (j + 1) : Nat) : Int) = y at *
      generalize ((a + j : Nat) : Int) = z at *
      simp [S.spec_Opened.l12, kl, kb, w1, f1, g3])
    (fun r => by
      have hend := spc_end (d.drop a)
      have hl := spc_le (d.drop a)
      obtain ⟨n, hn⟩ : ∃ n, spc (d.drop a) = n := ⟨_, rfl⟩
      rw [hn] at hl ⊢
      by_cases f1 : ((a + n : Nat) : Int) < d.length
      · have hlt : a + n < d.length := by omega
        have g : d[a + n] = 32 := by
          rcases hend with h | ⟨h1, h2⟩
          · rw [hn, List.length_drop] at h; omega
          · rw [List.getElem_drop] at h2
            simpa only [hn] using h2
        have kb := kbyte_nat (k := .i64) (l := d) (i := a + n) hlt
        rw [g, show (((32 : UInt8).toNat : Nat) : Int) = 32 from rfl] at kb
        generalize GV.str (bs d) = D at *
        generalize ((a + n : Nat) : Int) = z at *
        simp [S.spec_Opened.l12, kl, kb, f1]
      · generalize GV.str (bs d) = D at *
        generalize ((a + n : Nat) : Int) = z at *
        simp [S.spec_Opened.l12, kl, f1]) hm
  exact key
theorem spec_Opened_spec (key d : List UInt8) (hk : key.length ≤ 1048576) (hd : d.length ≤ 1048576) : Answers fn.spec_Opened key d := by
  have hll := lead_len 14 d
  obtain ⟨n, hn⟩ : ∃ n, (lead 14 d).length = n := ⟨_, rfl⟩
  obtain ⟨c, hc⟩ : ∃ c, valM (lead 14 d) = c := ⟨_, rfl⟩
  obtain ⟨m, hm⟩ : ∃ m, n + 1 + spc (d.drop (n + 1)) = m := ⟨_, rfl⟩
  have hsp := spc_le (d.drop (n + 1))
  rw [List.length_drop] at hsp
  obtain ⟨s, hs⟩ : ∃ s, d.drop (m + 1) = s := ⟨_, rfl⟩
  have hsl : s.length = d.length - (m + 1) := by rw [← hs, List.length_drop]
  have L21 := fun {R : Type} (G : KT7 R) (v0 v4 v5 v6 : GV) (H : Heap) => l21_all (d.length + 15) G d v0 v4 v5 v6 H (d.length + 15) hd (by omega)
  have L12 := fun {R : Type} (G : KT8 R) (v0 v4 v5 v6 v7 v8 : GV) (H : Heap) => l12_all (d.length + 15) G d (n + 1) v0 v4 v5 v6 v7 v8 H (d.length + 15) hd (by omega) (by omega)
  rw [hn, hc] at L21
  rw [hm] at L12
  have hop : ∀ c' t, Opens key d c' t → n ≠ 0 ∧ m < d.length ∧ c' = c ∧ toldP key c s.length = true ∧ t = xorL s (streamM key c s.length) := fun c' t h => by
    obtain ⟨B, X, a0, a1, _, _, _, g1, g2, a4, a5⟩ := h.cuts
    have e1 : lead 14 d = itoa c' := by
      rw [a0]
      exact lead_app 14 _ 32 _ (itoa_dig g1) (by have := itoa_13 g1 g2; omega) rfl
    rw [e1] at hn hc
    rw [itoa_val g1] at hc
    subst hc
    have e2 : d.drop (n + 1) = B ++ 32 :: X := by rw [a0, ← hn]; simp [List.drop_append]
    have e3 : spc (d.drop (n + 1)) = B.length := by rw [e2]; exact spc_app B X a1
    have e4 : d.drop (m + 1) = X := by
      rw [show m + 1 = (n + 1) + (B.length + 1) by omega, ← List.drop_drop, e2]; simp [List.drop_append]
    have e5 : d.length = n + 1 + (B.length + 1 + X.length) := by rw [a0, ← hn]; simp; omega
    rw [hs] at e4
    subst e4
    refine ⟨?_, by omega, rfl, a4, a5.symm⟩
    have := itoa_pos (n := c')
    omega
  have kl := klenS_bs d
  have a1 : kbin .eql (.int .i64 (n : Nat)) (.int .i64 0) = some (.bool (decide (n = 0))) := by rw [kbin_eql]; simp
  have a2 : kbin .add (.int .i64 (n : Nat)) (.int .i64 1) = some (.int .i64 ((n + 1 : Nat) : Int)) := by rw [kbin_add, wrap_id (by omega) (by omega)]; rfl
  have a3 : kbin .geq (.int .i64 (m : Nat)) (.int .i64 (d.length : Nat)) = some (.bool (decide (d.length ≤ m))) := by rw [kbin_geq]; simp
  have fF : ∀ H, finN (.tup [.int .i64 (-1), .str { data := #[] }, .bool false]) H = some (.tup [.int .i64 (-1), .str { data := #[] }, .bool false]) := fun H => rfl
  by_cases g1 : n = 0
  · refine .inr ⟨fun c' t h => (hop c' t h).1 g1, ?_⟩
    apply S.spec_Opened.gives (k := d.length + 15)
    rw [decide_eq_true g1] at a1
    generalize GV.str (bs key) = L at *
    generalize GV.str (bs d) = D at *
    generalize GV.int .i64 ((n + 1 : Nat) : Int) = N1 at *
    generalize GV.int .i64 (n : Nat) = N0 at *
    generalize GV.int .i64 (m : Nat) = M0 at *
    generalize GV.int .i64 c = C at *
    generalize d.length + 15 = K at *
    simp [S.spec_Opened.run, L21, L12, a1, a2, fF, -kN_eq]
  rw [decide_eq_false g1] at a1
  by_cases g2 : m < d.length
  case neg =>
    refine .inr ⟨fun c' t h => g2 (hop c' t h).2.1, ?_⟩
    apply S.spec_Opened.gives (k := d.length + 15)
    rw [decide_eq_true (by omega)] at a3
    generalize GV.str (bs key) = L at *
    generalize GV.str (bs d) = D at *
    generalize GV.int .i64 ((n + 1 : Nat) : Int) = N1 at *
    generalize GV.int .i64 (n : Nat) = N0 at *
    generalize GV.int .i64 (m : Nat) = M0 at *
    generalize GV.int .i64 (d.length : Nat) = D0 at *
    generalize GV.int .i64 c = C at *
    generalize d.length + 15 = K at *
    simp [S.spec_Opened.run, L21, L12, a1, a2, kl, a3, fF, -kN_eq]
  rw [decide_eq_false (by omega)] at a3
  have a4 : kbin .sub (.int .i64 (d.length : Nat)) (.int .i64 (m : Nat)) = some (.int .i64 ((d.length : Int) - m)) := by rw [kbin_sub, wrap_id (by omega) (by omega)]
  have a5 : kbin .sub (.int .i64 ((d.length : Int) - m)) (.int .i64 1) = some (.int .i64 (s.length : Nat)) := by rw [kbin_sub, wrap_id (by omega) (by omega), show (d.length : Int) - m - 1 = (s.length : Nat) by omega]
  have a6 : kbin .add (.int .i64 (m : Nat)) (.int .i64 1) = some (.int .i64 ((m + 1 : Nat) : Int)) := by rw [kbin_add, wrap_id (by omega) (by omega)]; rfl
  have t1 : ∀ H, kN NN fn.spec_l14Told [.str (bs key), .int .i64 c, .int .i64 (s.length : Nat)] H = _ := fun H => kN_at (by simp) (spec_l14Told_spec key c s.length (by omega))
  by_cases hT : toldP key c s.length = true
  case neg =>
    refine .inr ⟨fun c' t h => hT (hop c' t h).2.2.2.1, ?_⟩
    apply S.spec_Opened.gives (k := d.length + 15)
    have hT' : toldP key c s.length = false := by simpa using hT
    rw [hT'] at t1
    generalize GV.str (bs key) = L at *
    generalize GV.str (bs d) = D at *
    generalize GV.int .i64 ((n + 1 : Nat) : Int) = N1 at *
    generalize GV.int .i64 (n : Nat) = N0 at *
    generalize GV.int .i64 (m : Nat) = M0 at *
    generalize GV.int .i64 (d.length : Nat) = D0 at *
    generalize GV.int .i64 ((d.length : Int) - m) = D1 at *
    generalize GV.int .i64 (s.length : Nat) = S0 at *
    generalize GV.int .i64 c = C at *
    generalize d.length + 15 = K at *
    simp [S.spec_Opened.run, L21, L12, a1, a2, kl, a3, a4, a5, t1, fF, -kN_eq]
  rw [hT] at t1
  have kls := klenS_bs s
  have sl : kslS (.str (bs d)) (some (.int .i64 ((m + 1 : Nat) : Int))) none none = some (.str (bs s)) := by
    rw [kslS_bs (l := d) rfl (a := m + 1) (b := d.length) rfl rfl (by omega) (Nat.le_refl _), List.take_length, hs]
  have hstl := stream_len hT
  have hxl := xorL_len (l := s) hstl
  have st1 : ∀ H, kN NN fn.spec_Stream [.str (bs key), .int .i64 c, .int .i64 (s.length : Nat)] H = _ := fun H => kN_at (by simp) (spec_Stream_spec key c s.length hk (by omega))
  have x1 : ∀ H, kN NN fn.spec_l14Xor [.str (bs s), .str (bs (streamM key c s.length))] H = _ := fun H => kN_at (by simp) (spec_l14Xor_spec s (streamM key c s.length) hstl.symm (by omega))
  have e1 : ∀ H, kN NN fn.spec_Sealed [.str (bs key), .int .i64 c, .str (bs (xorL s (streamM key c s.length)))] H = _ := fun H => kN_at (by simp) (spec_Sealed_spec key c (xorL s (streamM key c s.length)) hk (by rw [hxl]; omega))
  have ne : kbin .neq (.str (bs (sealM key c (xorL s (streamM key c s.length))))) (.str (bs d)) = some (.bool (decide (sealM key c (xorL s (streamM key c s.length)) ≠ d))) := by
    rw [kbin_sneq]; simp only [ne_eq, bs_inj]
  have run : NN fn.spec_Opened [.str (bs key), .str (bs d)] = if sealM key c (xorL s (streamM key c s.length)) = d then some (.tup [.int .i64 c, .str (bs (xorL s (streamM key c s.length))), .bool true]) else some (.tup [.int .i64 (-1), .str { data := #[] }, .bool false]) := by
    have fT : ∀ H, finN (.tup [.int .i64 c, .str (bs (xorL s (streamM key c s.length))), .bool true]) H = some (.tup [.int .i64 c, .str (bs (xorL s (streamM key c s.length))), .bool true]) := fun H => rfl
    generalize GV.str (bs (sealM key c (xorL s (streamM key c s.length)))) = Y at *
    generalize sealM key c (xorL s (streamM key c s.length)) = Q at *
    generalize GV.str (bs (xorL s (streamM key c s.length))) = X at *
    generalize GV.str (bs (streamM key c s.length)) = W at *
    generalize GV.str (bs key) = L at *
    generalize GV.str (bs d) = D at *
    generalize GV.str (bs s) = E1 at *
    generalize GV.int .i64 ((n + 1 : Nat) : Int) = N1 at *
    generalize GV.int .i64 ((m + 1 : Nat) : Int) = M1 at *
    generalize GV.int .i64 (n : Nat) = N0 at *
    generalize GV.int .i64 (m : Nat) = M0 at *
    generalize GV.int .i64 (d.length : Nat) = D0 at *
    generalize GV.int .i64 ((d.length : Int) - m) = D1 at *
    generalize GV.int .i64 (s.length : Nat) = S0 at *
    generalize GV.int .i64 c = C at *
    generalize d.length + 15 = K at *
    by_cases he : Q = d
    · rw [if_pos he]
      rw [decide_eq_false (by simpa using he)] at ne
      apply S.spec_Opened.gives (k := K)
      simp [S.spec_Opened.run, L21, L12, a1, a2, kl, a3, a4, a5, a6, t1, sl, kls, st1, x1, e1, ne, fT, -kN_eq]
    · rw [if_neg he]
      rw [decide_eq_true he] at ne
      apply S.spec_Opened.gives (k := K)
      simp [S.spec_Opened.run, L21, L12, a1, a2, kl, a3, a4, a5, a6, t1, sl, kls, st1, x1, e1, ne, fF, -kN_eq]
  by_cases he : sealM key c (xorL s (streamM key c s.length)) = d
  · exact .inl ⟨c, _, ⟨by rw [hxl]; exact hT, he⟩, by rw [run, if_pos he]⟩
  · refine .inr ⟨fun c' t h => he ?_, by rw [run, if_neg he]⟩
    obtain ⟨_, _, rfl, _, rfl⟩ := hop c' t h
    exact h.2
end Go.Proofs.YtklhdbkaejbajaaDoor.G
