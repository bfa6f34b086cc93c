/- Numbers read out of words; records taken from a disk. -/
import Derived.Test.YtklhdbkaejbajaaDoorTCut
import Derived.Test.YtklhdbkaejbajaaDoorSC
import Derived.Lib.ParseIntBTie
namespace Go.Proofs.YtklhdbkaejbajaaDoor.G
open Go.RowKit Go.Lib
set_option linter.unusedVariables false
set_option linter.unusedSimpArgs false

/-! What stands ahead. -/
theorem eq_str {a b : List UInt8} : kbin .eql (.str (bs a)) (.str (bs b)) = some (.bool (decide (a = b))) := by
  rw [kbin_seql]; simp only [bs_inj]
theorem hasPrefix_spec (s p : List UInt8) : NN fn.internal_stringslite_HasPrefix [.str (bs s), .str (bs p)] = some (.bool (decide (p.length ≤ s.length ∧ s.take p.length = p))) := by
  apply S.internal_stringslite_HasPrefix.gives (k := 0)
  have k1 := klenS_bs s
  have k2 := klenS_bs p
  have ge : kbin .geq (.int .i64 (s.length : Nat)) (.int .i64 (p.length : Nat)) = some (.bool (decide (p.length ≤ s.length))) := by rw [kbin_geq]; simp
  by_cases h : p.length ≤ s.length
  · have sl : kslS (.str (bs s)) none (some (.int .i64 (p.length : Nat))) none = some (.str (bs (s.take p.length))) := by
      rw [kslS_bs (l := s) rfl (a := 0) (b := p.length) rfl rfl (by omega) h, List.drop_zero]
    have e := eq_str (a := s.take p.length) (b := p)
    have d : decide (p.length ≤ s.length ∧ s.take p.length = p) = decide (s.take p.length = p) := by rw [Bool.eq_iff_iff]; simp; omega
    rw [decide_eq_true h] at ge
    rw [d]
    generalize GV.str (bs (s.take p.length)) = T at *
    generalize GV.str (bs s) = L at *
    generalize GV.str (bs p) = D at *
    generalize GV.int .i64 (p.length : Nat) = P0 at *
    generalize GV.int .i64 (s.length : Nat) = S0 at *
    simp [S.internal_stringslite_HasPrefix.run, k1, k2, ge, sl, e]
  · have d : decide (p.length ≤ s.length ∧ s.take p.length = p) = false := by simp; omega
    rw [decide_eq_false h] at ge
    rw [d]
    generalize GV.str (bs s) = L at *
    generalize GV.str (bs p) = D at *
    generalize GV.int .i64 (p.length : Nat) = P0 at *
    generalize GV.int .i64 (s.length : Nat) = S0 at *
    simp [S.internal_stringslite_HasPrefix.run, k1, k2, ge]
theorem strings_HasPrefix_spec (s p : List UInt8) : NN fn.strings_HasPrefix [.str (bs s), .str (bs p)] = some (.bool (decide (p.length ≤ s.length ∧ s.take p.length = p))) := by
  apply S.strings_HasPrefix.gives (k := 0)
  have e : ∀ H, kN NN fn.internal_stringslite_HasPrefix [.str (bs s), .str (bs p)] H = _ := fun H => kN_at (by simp) (hasPrefix_spec s p)
  generalize GV.str (bs s) = L at *
  generalize GV.str (bs p) = D at *
  simp [S.strings_HasPrefix.run, e, -kN_eq]
def noMinus (s : List UInt8) : List UInt8 := if 1 ≤ s.length ∧ s.take 1 = [45] then s.drop 1 else s
theorem trimMinus_spec (s : List UInt8) : NN fn.strings_TrimPrefix [.str (bs s), .str { data := #[45] }] = some (.str (bs (noMinus s))) := by
  have e : ∀ H, kN NN fn.internal_stringslite_HasPrefix [.str (bs s), .str { data := #[45] }] H = some (.bool (decide (1 ≤ s.length ∧ s.take 1 = [45]))) := fun H => kN_at (xs := [.str (bs s), .str (bs [45])]) (by simp) (hasPrefix_spec s [45])
  have e2 : NN fn.internal_stringslite_TrimPrefix [.str (bs s), .str { data := #[45] }] = some (.str (bs (noMinus s))) := by
    apply S.internal_stringslite_TrimPrefix.gives (k := 0)
    have k2 : klenS (.str { data := #[45] }) = some (.int .i64 1) := rfl
    unfold noMinus
    by_cases h : 1 ≤ s.length ∧ s.take 1 = [45]
    · have sl : kslS (.str (bs s)) (some (.int .i64 1)) none none = some (.str (bs (s.drop 1))) := by
        rw [kslS_bs (l := s) rfl (a := 1) (b := s.length) rfl rfl h.1 (Nat.le_refl _), List.take_length]
      rw [if_pos h]
      rw [decide_eq_true h] at e
      have fT := fun H => finN_bs (s.drop 1) H
      generalize GV.str (bs (s.drop 1)) = T at *
      generalize GV.str (bs s) = L at *
      generalize GV.str { data := #[45] } = M at *
      simp [S.internal_stringslite_TrimPrefix.run, e, k2, sl, fT, -kN_eq]
    · rw [if_neg h]
      rw [decide_eq_false h] at e
      have fT := fun H => finN_bs s H
      generalize GV.str (bs s) = L at *
      generalize GV.str { data := #[45] } = M at *
      simp [S.internal_stringslite_TrimPrefix.run, e, fT, -kN_eq]
  apply S.strings_TrimPrefix.gives (k := 0)
  have e3 : ∀ H, kN NN fn.internal_stringslite_TrimPrefix [.str (bs s), .str { data := #[45] }] H = _ := fun H => kN_at (by simp) e2
  have fT := fun H => finN_bs (noMinus s) H
  generalize GV.str (bs (noMinus s)) = T at *
  generalize GV.str (bs s) = L at *
  generalize GV.str { data := #[45] } = M at *
  simp [S.strings_TrimPrefix.run, e3, fT, -kN_eq]

/-! Numbers out of words. -/
theorem eq_nil : gbinop PP .eql 113 (.tmp 12) (.const .nilIface) .nili .nili = some (.bool true) := by kernel_rfl
theorem eq_ifc : gbinop PP .eql 113 (.tmp 12) (.const .nilIface) .ifc .nili = some (.bool false) := by kernel_rfl
theorem itoa_9 {n : Int} (h : 0 ≤ n) (h' : n ≤ 999999999) : (itoa n).length ≤ 9 := by
  have e : itoa n = decDigits n.toNat := by unfold itoa; rw [if_neg (by omega)]
  rw [e, decDigits_len]
  exact nDigits_le 9 n.toNat (by omega) (by omega)
theorem noMinus_itoa {n : Int} (h : 0 ≤ n) : noMinus (itoa n) = itoa n := by
  unfold noMinus
  rw [if_neg]
  rintro ⟨_, h2⟩
  have h3 : (45 : UInt8) ∈ itoa n := List.mem_of_mem_take (i := 1) (by rw [h2]; simp)
  have := itoa_dig h _ h3
  simp [isDig] at this
/-- A word that spells a number that is not too great. -/
def Spells (s : List UInt8) (m : Int) : Prop := 0 ≤ m ∧ m ≤ 999999999 ∧ s = itoa m
theorem impl_numberOf_spec (s : List UInt8) (h : s.length ≤ 1048576) : ∃ n b, NN fn.impl_numberOf [.str (bs s)] = some (.tup [.int .i64 n, .bool b]) ∧ ∀ m, Spells s m → n = m ∧ b = true := by
  obtain ⟨n, ev, hp, hpp⟩ := pi_spec s h
  have p1 : ∀ H, kN NN fn.strconv_ParseInt [.str (bs s), .int .i64 10, .int .i64 64] H = _ := fun H => kN_at (by simp) hp
  rcases hpp with ⟨rfl, g⟩ | ⟨rfl, g⟩
  case inr =>
    refine ⟨n, false, ?_, fun m ⟨h1, h2, h3⟩ => absurd (h3 ▸ parse_itoa h1 (by omega)) (g m)⟩
    · apply S.impl_numberOf.gives (k := 0)
      have fT : ∀ H, finN (.tup [.int .i64 n, .bool false]) H = some (.tup [.int .i64 n, .bool false]) := fun H => rfl
      generalize GV.str (bs s) = L at *
      simp [S.impl_numberOf.run, p1, eq_ifc, fT, -kN_eq]
  have hb := parseIntB_bounds g
  simp only [Nat.reduceSub, Nat.reducePow] at hb
  have d1 : ∀ H, kN NN fn.impl_decimal [.int .i64 n] H = _ := fun H => kN_at (by simp) (impl_decimal_spec n (by omega) (by omega))
  have e1 := eq_str (a := itoa n) (b := s)
  have t1 : ∀ H, kN NN fn.strings_TrimPrefix [.str (bs s), .str { data := #[45] }] H = _ := fun H => kN_at (by simp) (trimMinus_spec s)
  have k1 := klenS_bs (noMinus s)
  refine ⟨n, decide (itoa n = s) && decide ((noMinus s).length ≤ 9), ?_, fun m hm => ?_⟩
  · apply S.impl_numberOf.gives (k := 0)
    have le : kbin .leq (.int .i64 ((noMinus s).length : Nat)) (.int .i64 9) = some (.bool (decide ((noMinus s).length ≤ 9))) := by rw [kbin_leq]; simp; omega
    have fT : ∀ b H, finN (.tup [.int .i64 n, .bool b]) H = some (.tup [.int .i64 n, .bool b]) := fun b H => rfl
    generalize GV.str (bs (noMinus s)) = T at *
    generalize GV.int .i64 ((noMinus s).length : Nat) = T0 at *
    generalize decide ((noMinus s).length ≤ 9) = b2 at *
    generalize GV.str (bs (itoa n)) = I at *
    generalize GV.int .i64 n = Nv at *
    generalize decide (itoa n = s) = b1 at *
    generalize GV.str (bs s) = L at *
    cases b1 <;> simp [S.impl_numberOf.run, p1, eq_nil, d1, e1, t1, k1, le, fT, -kN_eq]
  · obtain ⟨h1, h2, rfl⟩ := hm
    rw [parse_itoa h1 (by omega)] at g
    cases g
    have := itoa_9 h1 h2
    rw [noMinus_itoa h1]
    simp [this]

theorem lead_full {n : Nat} {d : List UInt8} (h : (lead n d).length = d.length) : lead n d = d := by
  refine List.ext_getElem h fun j h1 h2 => ?_
  obtain ⟨_, _, _, e⟩ := lead_lt n d j h1
  exact e
theorem lead_all : ∀ (n : Nat) (A : List UInt8), (∀ c ∈ A, isDig c = true) → A.length ≤ n → lead n A = A
  | 0, [], _, _ => rfl
  | 0, _ :: _, _, h => by simp at h
  | n + 1, [], _, _ => rfl
  | n + 1, c :: A, hA, h => by
    have hc := hA c (by simp)
    simp only [lead, hc, if_true]
    rw [lead_all n A (fun x hx => hA x (by simp [hx])) (by simpa using h)]
theorem dec_head : ∀ (u : Nat), 1 ≤ u → ∃ c l, decDigits u = c :: l ∧ c ≠ 48 := by
  intro u
  induction u using Nat.strongRecOn with
  | _ u ih =>
    intro hu
    by_cases h : u < 10
    · rw [decDigits_small h]
      refine ⟨_, [], rfl, fun e => ?_⟩
      have := congrArg UInt8.toNat e
      simp at this
      omega
    · rw [decDigits_big h]
      obtain ⟨c, l, h1, h2⟩ := ih (u / 10) (by omega) (by omega)
      exact ⟨c, l ++ _, by rw [h1]; rfl, h2⟩
theorem itoa_lead0 {m : Int} (h : 0 ≤ m) (h0 : 0 < (itoa m).length) (e : (itoa m)[0] = 48) : (itoa m).length = 1 := by
  have e1 : itoa m = decDigits m.toNat := by unfold itoa; rw [if_neg (by omega)]
  by_cases hm : m = 0
  · subst hm; rw [e1, Int.toNat_zero, decDigits_small (by omega)]; rfl
  · obtain ⟨c, l, h1, h2⟩ := dec_head m.toNat (by omega)
    simp only [e1, h1, List.getElem_cons_zero] at e
    exact absurd e h2
theorem l16_all {R : Type} (k : Nat) (G : KT6 R) (s : List UInt8) (i : Nat) (v2 v3 v4 v5 : GV) (H : Heap) (m : Nat) (hs : s.length ≤ 100) (hi : i ≤ s.length) (hl : s.length - i ≤ 9) (hm : 9 < m) :
    S.spec_l10Number.l16 k G m (.str (bs s)) v2 v3 v4 v5 (.int .i64 0) (.int .i64 (i : Nat)) H =
      if (lead 9 (s.drop i)).length = (s.drop i).length then G (.ext 0) (.str (bs s)) v2 v3 v4 v5 (.int .i64 (valM (s.drop i))) H
      else G .ret (.str (bs s)) (.int .i64 0) (.bool false) v4 v5 (.int .i64 (valM (lead 9 (s.drop i)))) H := by
  have kl := klenS_bs s
  have hll := lead_len 9 (s.drop i)
  have hdl : (s.drop i).length = s.length - i := List.length_drop
  have key := loopTo (n := (lead 9 (s.drop i)).length) (m := m) (f := fun r j => S.spec_l10Number.l16 k G r (.str (bs s)) v2 v3 v4 v5 (.int .i64 (valM ((lead 9 (s.drop i)).take j))) (.int .i64 ((i + j : Nat) : Int)) H)
    (A := if (lead 9 (s.drop i)).length = (s.drop i).length then G (.ext 0) (.str (bs s)) v2 v3 v4 v5 (.int .i64 (valM (s.drop i))) H
      else G .ret (.str (bs s)) (.int .i64 0) (.bool false) v4 v5 (.int .i64 (valM (lead 9 (s.drop i)))) H)
    (fun j r hj => by
      obtain ⟨g1, g2, g3, g4⟩ := lead_lt 9 (s.drop i) j hj
      rw [hdl] at g1
      have kb := kbyte_nat (k := .i64) (l := s) (i := i + j) (by omega)
      obtain ⟨b1, b2⟩ := valM_small (lead_dig 9 (s.drop i)) (j := j) (by omega) (by omega)
      have e := valM_take (l := lead 9 (s.drop i)) hj
      rw [g4] at e
      rw [List.getElem_drop] at g2 e
      simp only [isDig, Bool.and_eq_true, decide_eq_true_eq] at g2
      obtain ⟨x, hx⟩ : ∃ x : Int, x = (s[i + j].toNat : Int) := ⟨_, rfl⟩
      rw [← hx] at kb g2 e
      have w1 : kbin .add (.int .i64 ((i + j : Nat) : Int)) (.int .i64 1) = some (.int .i64 ((i + (j + 1) : Nat) : Int)) := by rw [kbin_add, wrap_id (by omega) (by omega)]; rfl
      have w2 : IntKind.i64.wrap (valM ((lead 9 (s.drop i)).take j) * 10) = valM ((lead 9 (s.drop i)).take j) * 10 := wrap_id (by omega) (by omega)
      have w3 : IntKind.u8.wrap (x - 48) = x - 48 := wrap8 (by omega) (by omega)
      have w4 : IntKind.i64.wrap (x - 48) = x - 48 := wrap_id (by omega) (by omega)
      have w5 : IntKind.i64.wrap (valM ((lead 9 (s.drop i)).take j) * 10 + (x - 48)) = valM ((lead 9 (s.drop i)).take (j + 1)) := by rw [e]; exact wrap_id (by omega) (by omega)
      have f1 : kbin .lss (.int .i64 ((i + j : Nat) : Int)) (.int .i64 (s.length : Nat)) = some (.bool true) := by rw [kbin_lss, decide_eq_true (by omega)]
      have f3 : ¬ x < 48 := by omega
      have f4 : ¬ 57 < x := by omega
      generalize valM ((lead 9 (s.drop i)).take (j + 1)) = V' at *
      generalize valM ((lead 9 (s.drop i)).take j) = V at *
      generalize GV.str (bs s) = D at *
      generalize GV.int .i64 ((i + (j + 1) : Nat) : Int) = J' at *
      generalize GV.int .i64 ((i + j : Nat) : Int) = J at *
      generalize GV.int .i64 (s.length : Nat) = N0 at *
      simp [S.spec_l10Number.l16, kl, kb, w1, w2, w3, w4, w5, f1, f3, f4])
    (fun r => by
      rw [List.take_length]
      obtain ⟨n, hn⟩ : ∃ n, (lead 9 (s.drop i)).length = n := ⟨_, rfl⟩
      have hend := lead_end 9 (s.drop i)
      rw [hn] at hll ⊢
      by_cases hf : n = (s.drop i).length
      · rw [if_pos hf, lead_full (hn.trans hf)]
        have f1 : kbin .lss (.int .i64 ((i + n : Nat) : Int)) (.int .i64 (s.length : Nat)) = some (.bool false) := by rw [kbin_lss, decide_eq_false (by omega)]
        generalize valM (s.drop i) = V at *
        generalize GV.str (bs s) = D at *
        generalize GV.int .i64 ((i + n : Nat) : Int) = J at *
        generalize GV.int .i64 (s.length : Nat) = N0 at *
        simp [S.spec_l10Number.l16, kl, f1]
      · rw [if_neg hf]
        have hlt : i + n < s.length := by omega
        have hdg : isDig (s[i + n]) = false := by
          rcases hend with h | h | ⟨h1, h2⟩
          · omega
          · omega
          · rw [List.getElem_drop] at h2
            simpa only [hn] using h2
        have kb := kbyte_nat (k := .i64) (l := s) hlt
        simp only [isDig, Bool.and_eq_false_iff, decide_eq_false_iff_not] at hdg
        obtain ⟨x, hx⟩ : ∃ x : Int, x = (s[i + n].toNat : Int) := ⟨_, rfl⟩
        rw [← hx] at kb hdg
        have f1 : kbin .lss (.int .i64 ((i + n : Nat) : Int)) (.int .i64 (s.length : Nat)) = some (.bool true) := by rw [kbin_lss, decide_eq_true (by omega)]
        generalize valM (lead 9 (s.drop i)) = V at *
        generalize GV.str (bs s) = D at *
        generalize GV.int .i64 ((i + n : Nat) : Int) = J at *
        generalize GV.int .i64 (s.length : Nat) = N0 at *
        by_cases f3 : x < 48
        · simp [S.spec_l10Number.l16, kl, kb, f1, f3]
        · have f4 : 57 < x := by omega
          simp [S.spec_l10Number.l16, kl, kb, f1, f3, f4]) (by omega)
  simpa [valM] using key

theorem neq_nil {l : List UInt8} : kbin .neq (.str (bs l)) (.str { data := #[] }) = some (.bool (decide (l ≠ []))) := by
  rw [show ({ data := #[] } : ByteArray) = bs [] from rfl, kbin_sneq]; simp only [ne_eq, bs_inj]
theorem spec_l10Number_spec (s : List UInt8) (h : s.length ≤ 1048576) : ∃ n b, NN fn.spec_l10Number [.str (bs s)] = some (.tup [.int .i64 n, .bool b]) ∧ ∀ m, Spells s m → n = m ∧ b = true := by
  have kl := klenS_bs s
  have ne := neq_nil (l := s)
  have fT : ∀ n b H, finN (.tup [.int .i64 n, .bool b]) H = some (.tup [.int .i64 n, .bool b]) := fun n b H => rfl
  obtain ⟨V, hV⟩ : ∃ V, GV.int .i64 (s.length : Nat) = V := ⟨_, rfl⟩
  by_cases h0 : s = []
  · refine ⟨0, false, ?_, fun m ⟨h1, _, h3⟩ => ?_⟩
    · apply S.spec_l10Number.gives (k := 10)
      rw [decide_eq_false (by simpa using h0)] at ne
      have s1 : kbin .sub V (.int .i64 0) = some (.int .i64 0) := by rw [← hV, h0]; rfl
      rw [hV] at kl
      generalize GV.str (bs s) = D at *
      simp [S.spec_l10Number.run, ne, kl, s1, fT]
    · have := itoa_pos (n := m)
      rw [← h3, h0] at this
      simp at this
  rw [decide_eq_true h0] at ne
  have hpos : 0 < s.length := List.length_pos_iff.2 h0
  have kb := kbyte_nat (k := .i64) (l := s) (i := 0) hpos
  have kb0 : kbyte (.str (bs s)) (.int .i64 0) = some (.int .u8 (s[0].toNat : Int)) := kb
  by_cases hc : s[0] = 45
  · -- a sign ahead
    have kbA : kbyte (.str (bs s)) (.int .i64 0) = some (.int .u8 45) := by rw [kb0, hc]; rfl
    have no : ∀ m, ¬ Spells s m := fun m ⟨h1, _, h3⟩ => by
      have := itoa_dig h1 s[0] (by rw [← h3]; exact List.getElem_mem hpos)
      rw [hc] at this
      simp [isDig] at this
    suffices hh : ∃ n b, NN fn.spec_l10Number [.str (bs s)] = some (.tup [.int .i64 n, .bool b]) by
      obtain ⟨n, b, e⟩ := hh
      exact ⟨n, b, e, fun m hm => absurd hm (no m)⟩
    obtain ⟨L, hL⟩ : ∃ L, GV.int .i64 ((s.length : Int) - 1) = L := ⟨_, rfl⟩
    have s1 : kbin .sub V (.int .i64 1) = some L := by rw [← hV, ← hL, kbin_sub, wrap_id (by omega) (by omega)]
    by_cases g1 : s.length < 2
    · refine ⟨0, false, ?_⟩
      apply S.spec_l10Number.gives (k := 10)
      have c1 : kbin .lss L (.int .i64 1) = some (.bool true) := by rw [← hL, kbin_lss, decide_eq_true (by omega)]
      rw [hV] at kl
      generalize GV.str (bs s) = D at *
      simp [S.spec_l10Number.run, ne, kl, kbA, s1, c1, fT]
    have c1 : kbin .lss L (.int .i64 1) = some (.bool false) := by rw [← hL, kbin_lss, decide_eq_false (by omega)]
    by_cases g2 : 10 < s.length
    · refine ⟨0, false, ?_⟩
      apply S.spec_l10Number.gives (k := 10)
      have c2 : kbin .gtr L (.int .i64 9) = some (.bool true) := by rw [← hL, kbin_gtr, decide_eq_true (by omega)]
      rw [hV] at kl
      generalize GV.str (bs s) = D at *
      simp [S.spec_l10Number.run, ne, kl, kbA, s1, c1, c2, fT]
    have c2 : kbin .gtr L (.int .i64 9) = some (.bool false) := by rw [← hL, kbin_gtr, decide_eq_false (by omega)]
    have kb1 : kbyte (.str (bs s)) (.int .i64 1) = some (.int .u8 (s[1].toNat : Int)) := kbyte_nat (k := .i64) (l := s) (i := 1) (by omega)
    have L16 : ∀ {R : Type} (G : KT6 R) (v2 v3 v4 v5 : GV) (H : Heap), S.spec_l10Number.l16 10 G 10 (.str (bs s)) v2 v3 v4 v5 (.int .i64 0) (.int .i64 1) H = _ := fun G v2 v3 v4 v5 H => l16_all 10 G s 1 v2 v3 v4 v5 H 10 (by omega) (by omega) (by omega) (by omega)
    rw [hV] at kl
    generalize GV.int .i64 (valM (lead 9 (s.drop 1))) = W1 at *
    obtain ⟨v, hv⟩ : ∃ v, valM (s.drop 1) = v := ⟨_, rfl⟩
    rw [hv] at L16
    by_cases g3 : (lead 9 (s.drop 1)).length = (s.drop 1).length
    · simp only [g3, if_true] at L16
      obtain ⟨x, hx⟩ : ∃ x : Int, x = (s[1].toNat : Int) := ⟨_, rfl⟩
      rw [← hx] at kb1
      by_cases g4 : x = 48
      · refine ⟨0, false, ?_⟩
        apply S.spec_l10Number.gives (k := 10)
        generalize GV.str (bs s) = D at *
        simp [S.spec_l10Number.run, ne, kl, kbA, s1, c1, c2, L16, kb1, g4, fT]
      · refine ⟨IntKind.i64.wrap (0 - v), true, ?_⟩
        apply S.spec_l10Number.gives (k := 10)
        generalize GV.str (bs s) = D at *
        simp [S.spec_l10Number.run, ne, kl, kbA, s1, c1, c2, L16, kb1, g4, fT]
    · simp only [g3, if_false] at L16
      refine ⟨0, false, ?_⟩
      apply S.spec_l10Number.gives (k := 10)
      generalize GV.str (bs s) = D at *
      simp [S.spec_l10Number.run, ne, kl, kbA, s1, c1, c2, L16, fT]
  -- no sign
  obtain ⟨x, hx⟩ : ∃ x : Int, x = (s[0].toNat : Int) := ⟨_, rfl⟩
  have hx45 : ¬ x = 45 := fun e => hc (UInt8.toNat_inj.1 (show s[0].toNat = 45 by omega))
  rw [← hx] at kb0
  have s1 : kbin .sub V (.int .i64 0) = some V := by rw [← hV, kbin_sub, wrap_id (by omega) (by omega), Int.sub_zero]
  have c1 : kbin .lss V (.int .i64 1) = some (.bool false) := by rw [← hV, kbin_lss, decide_eq_false (by omega)]
  by_cases g2 : 9 < s.length
  · refine ⟨0, false, ?_, fun m ⟨h1, h2, h3⟩ => ?_⟩
    · apply S.spec_l10Number.gives (k := 10)
      have c2 : kbin .gtr V (.int .i64 9) = some (.bool true) := by rw [← hV, kbin_gtr, decide_eq_true (by omega)]
      rw [hV] at kl
      generalize GV.str (bs s) = D at *
      simp [S.spec_l10Number.run, ne, kl, kb0, hx45, s1, c1, c2, fT]
    · have := itoa_9 h1 h2
      rw [← h3] at this
      omega
  have c2 : kbin .gtr V (.int .i64 9) = some (.bool false) := by rw [← hV, kbin_gtr, decide_eq_false (by omega)]
  have L16 : ∀ {R : Type} (G : KT6 R) (v2 v3 v4 v5 : GV) (H : Heap), S.spec_l10Number.l16 10 G 10 (.str (bs s)) v2 v3 v4 v5 (.int .i64 0) (.int .i64 0) H = _ := fun G v2 v3 v4 v5 H => l16_all 10 G s 0 v2 v3 v4 v5 H 10 (by omega) (by omega) (by omega) (by omega)
  rw [List.drop_zero] at L16
  rw [hV] at kl
  generalize GV.int .i64 (valM (lead 9 s)) = W1 at *
  by_cases g3 : (lead 9 s).length = s.length
  case neg =>
    simp only [g3, if_false] at L16
    refine ⟨0, false, ?_, fun m ⟨h1, h2, h3⟩ => ?_⟩
    · apply S.spec_l10Number.gives (k := 10)
      generalize GV.str (bs s) = D at *
      simp [S.spec_l10Number.run, ne, kl, kb0, hx45, s1, c1, c2, L16, fT]
    · refine absurd ?_ g3
      rw [lead_all 9 s (by rw [h3]; exact itoa_dig h1) (by omega)]
  simp only [g3, if_true] at L16
  by_cases g4 : x = 48
  · have c3 : kbin .gtr V (.int .i64 1) = some (.bool (decide (1 < s.length))) := by rw [← hV, kbin_gtr]; simp; omega
    by_cases g5 : 1 < s.length
    · rw [decide_eq_true g5] at c3
      refine ⟨0, false, ?_, fun m ⟨h1, h2, h3⟩ => ?_⟩
      · apply S.spec_l10Number.gives (k := 10)
        generalize GV.str (bs s) = D at *
        simp [S.spec_l10Number.run, ne, kl, kb0, hx45, s1, c1, c2, L16, g4, c3, fT]
      · subst h3
        have := itoa_lead0 h1 hpos (UInt8.toNat_inj.1 (show (itoa m)[0].toNat = 48 by omega))
        omega
    · rw [decide_eq_false g5] at c3
      refine ⟨valM s, true, ?_, fun m ⟨h1, h2, h3⟩ => ⟨by rw [h3, itoa_val h1], rfl⟩⟩
      apply S.spec_l10Number.gives (k := 10)
      generalize valM s = v at *
      generalize GV.str (bs s) = D at *
      simp [S.spec_l10Number.run, ne, kl, kb0, hx45, s1, c1, c2, L16, g4, c3, fT]
  · refine ⟨valM s, true, ?_, fun m ⟨h1, h2, h3⟩ => ⟨by rw [h3, itoa_val h1], rfl⟩⟩
    apply S.spec_l10Number.gives (k := 10)
    generalize valM s = v at *
    generalize GV.str (bs s) = D at *
    simp [S.spec_l10Number.run, ne, kl, kb0, hx45, s1, c1, c2, L16, g4, fT]
end Go.Proofs.YtklhdbkaejbajaaDoor.G
