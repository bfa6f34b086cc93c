/- Records taken from a disk. -/
import Derived.Test.YtklhdbkaejbajaaDoorTTake
import Derived.Test.YtklhdbkaejbajaaDoorTLps
import Derived.Test.YtklhdbkaejbajaaDoorTRec
import Derived.Test.YtklhdbkaejbajaaDoorSK
namespace Go.Proofs.YtklhdbkaejbajaaDoor.G
open Go.RowKit Go.Lib
set_option linter.unusedVariables false
set_option linter.unusedSimpArgs false

/-! Numbers with blanks between, read. -/
def Heads (s : List UInt8) (ns : List Int) : Prop := ∀ m R, 0 ≤ m → m ≤ 999999999 → s = itoa m ++ 32 :: R → ∃ ns', ns = m :: ns'
def HeadsTo (s : List UInt8) (a j : Nat) (ns : List Int) : Prop := ∀ m R, 0 ≤ m → m ≤ 999999999 → s = itoa m ++ 32 :: R → (ns = [] ∧ a = 0 ∧ j ≤ (itoa m).length) ∨ ∃ ns', ns = m :: ns'
theorem l7_post {R : Type} {Post : Option R → Prop} (k : Nat) (G : KT3 R) (s : List UInt8) (hs : s.length ≤ 1048576) (v2 v3 : GV) {m : Nat} (hm : s.length + 1 < m)
    (hret : ∀ v ns H, BufG ci v ns H → Heads s ns → Post (G .ret v (.bool false) v H)) (hend : ∀ v ns H, BufG ci v ns H → Heads s ns → Post (G (.ext 0) v2 v3 v H)) :
    Post (S.spec_l10Read.l7 k G m (.str (bs s)) v2 v3 .emp (.int .i64 0) (.int .i64 0) []) := by
  have kl := klenS_bs s
  refine loop_post (T := Nat × List Int × GV × Heap) (n := s.length + 1) (Post := Post) (Inv := fun j x => x.1 ≤ j ∧ x.2.1.length ≤ j ∧ BufG ci x.2.2.1 x.2.1 x.2.2.2 ∧ HeadsTo s x.1 j x.2.1)
    (f := fun r j x => S.spec_l10Read.l7 k G r (.str (bs s)) v2 v3 x.2.2.1 (.int .i64 (x.1 : Nat)) (.int .i64 (j : Nat)) x.2.2.2) ?_ ?_ (s := (0, [], .emp, [])) ⟨Nat.le_refl _, Nat.le_refl _, .inl ⟨rfl, rfl⟩, fun m R _ _ _ => .inl ⟨rfl, rfl, Nat.zero_le _⟩⟩ hm
  · rintro j r ⟨a, ns, v, H⟩ hj ⟨ha, hns, hb, hh⟩
    simp only at ha hns hb hh
    simp only
    have hle : kbin .leq (.int .i64 (j : Nat)) (.int .i64 (s.length : Nat)) = some (.bool true) := by rw [kbin_leq, decide_eq_true (by omega)]
    have w1 : kbin .add (.int .i64 (j : Nat)) (.int .i64 1) = some (.int .i64 ((j + 1 : Nat) : Int)) := by rw [kbin_add, wrap_id (by omega) (by omega)]; rfl
    by_cases hskip : ∃ h : j < s.length, s[j] ≠ 32
    · obtain ⟨h1, h2⟩ := hskip
      have hlt : kbin .lss (.int .i64 (j : Nat)) (.int .i64 (s.length : Nat)) = some (.bool true) := by rw [kbin_lss, decide_eq_true (by omega)]
      have kb := kbyte_nat (k := .i64) (l := s) h1
      have g3 : (s[j].toNat : Int) ≠ 32 := fun e => h2 (UInt8.toNat_inj.1 (show s[j].toNat = 32 by omega))
      obtain ⟨x, hx⟩ : ∃ x : Int, x = (s[j].toNat : Int) := ⟨_, rfl⟩
      rw [← hx] at kb g3
      refine .inl ⟨(a, ns, v, H), ?_, (by show a ≤ j + 1; omega), (by show ns.length ≤ j + 1; omega), hb, fun m R q1 q2 q3 => ?_⟩
      · generalize GV.str (bs s) = D at *
        generalize GV.int .i64 ((j + 1 : Nat) : Int) = J' at *
        generalize GV.int .i64 (j : Nat) = J at *
        generalize GV.int .i64 (s.length : Nat) = N0 at *
        simp [S.spec_l10Read.l7, kl, hle, hlt, kb, g3, w1]
      · rcases hh m R q1 q2 q3 with ⟨p1, p2, p3⟩ | p
        · refine .inl ⟨p1, p2, ?_⟩
          rcases Nat.lt_or_ge j (itoa m).length with q | q
          · exact q
          · have hjm : j = (itoa m).length := by omega
            exfalso
            apply h2
            subst hjm
            simp [q3]
        · exact .inr p
    · have hstop : j = s.length ∨ ∃ h : j < s.length, s[j] = 32 := by
        rcases Nat.lt_or_ge j s.length with q | q
        · exact .inr ⟨q, Decidable.byContradiction fun e => hskip ⟨q, e⟩⟩
        · exact .inl (by omega)
      obtain ⟨w, hw⟩ : ∃ w, (s.take j).drop a = w := ⟨_, rfl⟩
      have hwl : w.length ≤ 1048576 := by rw [← hw, List.length_drop, List.length_take]; omega
      have sl : kslS (.str (bs s)) (some (.int .i64 (a : Nat))) (some (.int .i64 (j : Nat))) none = some (.str (bs w)) := by rw [slS_mid ha (by omega), hw]
      obtain ⟨n, b, e1, e2⟩ := spec_l10Number_spec w hwl
      have d1 : ∀ H, kN NN fn.spec_l10Number [.str (bs w)] H = _ := fun H => kN_at (by simp) e1
      have hword : ∀ m R, 0 ≤ m → m ≤ 999999999 → s = itoa m ++ 32 :: R → ns = [] → (n = m ∧ b = true) := fun m R q1 q2 q3 q4 => by
        rcases hh m R q1 q2 q3 with ⟨p1, p2, p3⟩ | ⟨ns', p⟩
        · have hjm : j = (itoa m).length := by
            have hl : (itoa m).length < s.length := by rw [q3]; simp
            rcases hstop with q | ⟨q, q'⟩
            · omega
            · rcases Nat.lt_or_ge j (itoa m).length with z | z
              · exfalso
                have : (32 : UInt8) ∈ itoa m := by
                  rw [← q']
                  simp only [q3, List.getElem_append_left z]
                  exact List.getElem_mem _
                exact itoa_nosp this
              · omega
          refine e2 m ⟨q1, q2, ?_⟩
          rw [← hw, p2, List.drop_zero, hjm, q3]
          simp
        · rw [q4] at p; cases p
      -- up to here the same
      have grp : ∀ {Q : Type} (x y : Option Q), True := fun _ _ => trivial
      have stop : (kbin .lss (.int .i64 (j : Nat)) (.int .i64 (s.length : Nat)) = some (.bool false)) ∨ (kbin .lss (.int .i64 (j : Nat)) (.int .i64 (s.length : Nat)) = some (.bool true) ∧ kbyte (.str (bs s)) (.int .i64 (j : Nat)) = some (.int .u8 32)) := by
        rcases hstop with q | ⟨q, q'⟩
        · exact .inl (by rw [kbin_lss, decide_eq_false (by omega)])
        · exact .inr ⟨by rw [kbin_lss, decide_eq_true (by omega)], by rw [kbyte_nat q, q']; rfl⟩
      cases b with
      | false =>
        refine .inr ?_
        have hr := hret v ns H hb fun m R q1 q2 q3 => by
          rcases hh m R q1 q2 q3 with ⟨p1, _⟩ | p
          · exact absurd (hword m R q1 q2 q3 p1).2 (by simp)
          · exact p
        generalize GV.str (bs s) = D at *
        generalize GV.str (bs w) = W at *
        generalize GV.int .i64 ((j + 1 : Nat) : Int) = J' at *
        generalize GV.int .i64 (j : Nat) = J at *
        generalize GV.int .i64 (a : Nat) = A at *
        generalize GV.int .i64 (s.length : Nat) = N0 at *
        rcases stop with q | ⟨q, q'⟩
        · simpa [S.spec_l10Read.l7, kl, hle, q, sl, d1, -kN_eq] using hr
        · simpa [S.spec_l10Read.l7, kl, hle, q, q', sl, d1, -kN_eq] using hr
      | true =>
        obtain ⟨v', H', a1, a2⟩ := hb.app (mk := ci) (fun _ => rfl) (fun _ => rfl) (z := [.int .i64 0]) rfl (sz := 8) (by omega) (m := [n]) (by simp) (by simp; omega)
        have a1' : kapp [.int .i64 0] 1 8 v (.sl H.length 0 1 1 1) (H ++ [[GV.int .i64 n]]) = some (v', H') := a1
        have gf := gfill_one' (v := .int .i64 n) (z := [.int .i64 0]) rfl rfl
        refine .inl ⟨(j + 1, ns ++ [n], v', H'), ?_, Nat.le_refl _, by simp; omega, a2, fun m R q1 q2 q3 => ?_⟩
        · generalize GV.str (bs s) = D at *
          generalize GV.str (bs w) = W at *
          generalize GV.int .i64 ((j + 1 : Nat) : Int) = J' at *
          generalize GV.int .i64 (j : Nat) = J at *
          generalize GV.int .i64 (a : Nat) = A at *
          generalize GV.int .i64 (s.length : Nat) = N0 at *
          rcases stop with q | ⟨q, q'⟩
          · simp [S.spec_l10Read.l7, kl, hle, q, sl, d1, gf, kbs_eq, a1', w1, -kN_eq]
          · simp [S.spec_l10Read.l7, kl, hle, q, q', sl, d1, gf, kbs_eq, a1', w1, -kN_eq]
        · refine .inr ?_
          rcases hh m R q1 q2 q3 with ⟨p1, _⟩ | ⟨ns', p⟩
          · obtain ⟨z, _⟩ := hword m R q1 q2 q3 p1
            exact ⟨[], by rw [p1, z]; rfl⟩
          · exact ⟨ns' ++ [n], by rw [p]; rfl⟩
  · rintro r ⟨a, ns, v, H⟩ ⟨ha, hns, hb, hh⟩
    simp only at ha hns hb hh
    simp only
    have hle : kbin .leq (.int .i64 ((s.length + 1 : Nat) : Int)) (.int .i64 (s.length : Nat)) = some (.bool false) := by rw [kbin_leq, decide_eq_false (by omega)]
    have he := hend v ns H hb fun m R q1 q2 q3 => by
      rcases hh m R q1 q2 q3 with ⟨_, _, p3⟩ | p
      · have hl : (itoa m).length < s.length := by rw [q3]; simp
        omega
      · exact p
    generalize GV.str (bs s) = D at *
    generalize GV.int .i64 ((s.length + 1 : Nat) : Int) = J at *
    generalize GV.int .i64 (s.length : Nat) = N0 at *
    simpa [S.spec_l10Read.l7, kl, hle] using he
theorem spec_l10Read_spec (s : List UInt8) (hs : s.length ≤ 1048576) : ∃ ns b, NN fn.spec_l10Read [.str (bs s)] = some (.tup [fzl false 1 ci ns, .bool b]) ∧ Heads s ns := by
  have fz : ∀ v ns H b, BufG ci v ns H → finN (.tup [v, .bool b]) H = some (.tup [fzl false 1 ci ns, .bool b]) := fun v ns H b hb => by
    obtain ⟨r, hr⟩ := hb.frz (d := 7) (fun _ => rfl) (fun a _ => .ci)
    exact finN_of (frz_tup (.cons hr (.cons rfl .nil)))
  obtain ⟨ns, b, e1, e2⟩ := l7_post (Post := fun o => ∃ ns b, o = some (GV.tup [fzl false 1 ci ns, .bool b]) ∧ Heads s ns) (s.length + 2)
      (fun x v2 v3 v4 h => kb 0 x fun x => kx x (S.spec_l10Read.n4 (s.length + 2) (fun x v2 v3 h => kend x (finN (.tup [v2, v3]) h)) v4 h) (kend x (finN (.tup [v2, v3]) h))) s hs .nils (.bool false) (m := s.length + 2) (by omega)
      (fun v ns H hb hh => ⟨ns, false, by simpa using fz v ns H false hb, hh⟩)
      (fun v ns H hb hh => ⟨ns, true, by simpa using fz v ns H true hb, hh⟩)
  exact ⟨ns, b, S.spec_l10Read.gives (k := s.length + 2) e1, e2⟩

/-! A record at the beginning of a disk. -/
theorem itoa_not {n : Int} {c : UInt8} (h : c.toNat ≠ 45) (h' : c.toNat < 48) : c ∉ itoa n := fun hc => by
  have := itoa_no hc
  omega
theorem cutc_spec (s : List UInt8) (c : UInt8) {C : ByteArray} (hC : C = bs [c]) (h : s.length ≤ 1048576) : NN fn.strings_Cut [.str (bs s), .str C] = some (.tup [.str (bs (cut s [c]).1), .str (bs (cut s [c]).2.1), .bool (cut s [c]).2.2]) := by
  subst hC
  show rCut [.str (bs s), .str (bs [c])] = _
  show (if (bs s).size < 4294967281 then _ else none) = _
  rw [if_pos (by rw [bs_size]; omega)]
def Begins (d t : List UInt8) : Prop := t.length ≤ 5000 ∧ (recM t).length ≤ d.length ∧ d.take (recM t).length = recM t
theorem recM_eq {t : List UInt8} (h : t.length ≤ 5000) : recM t = itoa t.length ++ 32 :: (itoa (sumGo 2 t) ++ 10 :: (t ++ [10])) := by
  unfold recM
  rw [if_neg (by omega)]
  simp
theorem Begins.parts {d t : List UInt8} (h : Begins d t) : ∃ R, d = (itoa t.length ++ 32 :: itoa (sumGo 2 t)) ++ 10 :: (t ++ 10 :: R) := by
  obtain ⟨h1, h2, h3⟩ := h
  have e := List.take_append_drop (recM t).length d
  obtain ⟨R, hR⟩ : ∃ R, d.drop (recM t).length = R := ⟨_, rfl⟩
  rw [hR, h3, recM_eq h1] at e
  refine ⟨R, ?_⟩
  rw [← e]
  simp
theorem Begins.ten {t : List UInt8} : (10 : UInt8) ∉ itoa t.length ++ 32 :: itoa (sumGo 2 t) := by
  intro h
  rcases List.mem_append.1 h with h | h
  · exact itoa_not (by decide) (by decide) h
  · rcases List.mem_cons.1 h with h | h
    · exact absurd h (by decide)
    · exact itoa_not (by decide) (by decide) h
theorem Begins.cuts {d t : List UInt8} (h : Begins d t) : ∃ R, cut d [10] = (itoa t.length ++ 32 :: itoa (sumGo 2 t), t ++ 10 :: R, true) ∧ cut (itoa t.length ++ 32 :: itoa (sumGo 2 t)) [32] = (itoa t.length, itoa (sumGo 2 t), true) := by
  obtain ⟨R, e⟩ := h.parts
  exact ⟨R, by rw [e]; exact cut_hit Begins.ten, cut_hit (itoa_not (by decide) (by decide))⟩
theorem Begins.uniq {d t t' : List UInt8} (h : Begins d t) (h' : Begins d t') : t = t' := by
  obtain ⟨R, e1, e2⟩ := h.cuts
  obtain ⟨R', e3, e4⟩ := h'.cuts
  rw [e1, Prod.mk.injEq, Prod.mk.injEq] at e3
  obtain ⟨g1, g2, _⟩ := e3
  rw [g1, e4, Prod.mk.injEq] at e2
  have hl := congrArg (parseIntB 64) e2.1
  have b1 := h.1
  have b2 := h'.1
  rw [parse_itoa (by omega) (by omega), parse_itoa (by omega) (by omega)] at hl
  have hl' : (t'.length : Int) = t.length := by injection hl
  have := congrArg (List.take t.length) g2
  rw [List.take_left, List.take_append_of_le_length (by omega), List.take_of_length_le (by omega)] at this
  exact this
theorem recM_len {t : List UInt8} (h : t.length ≤ 5000) : 0 < (recM t).length ∧ (recM t).length ≤ 5100 := by
  have hb : 0 ≤ sumGo 2 t ∧ sumGo 2 t < 2147483647 := by
    rcases List.eq_nil_or_concat t with rfl | ⟨l, a, rfl⟩
    · exact ⟨by decide, by decide⟩
    · unfold sumGo
      rw [List.concat_eq_append, List.foldl_append]
      exact mixM_b _ _
  have a1 := itoa_len (n := (t.length : Int)) (by omega) (by omega)
  have a2 := itoa_len (n := sumGo 2 t) (by omega) (by omega)
  rw [recM_eq h]
  simp only [List.length_append, List.length_cons, List.length_nil]
  omega
theorem impl_takeRecord_spec (d : List UInt8) (hd : d.length ≤ 1048576) :
    (∃ t, Begins d t ∧ NN fn.impl_takeRecord [.str (bs d)] = some (.tup [.str (bs t), .bool true])) ∨
    ((∀ t, ¬ Begins d t) ∧ ∃ x, NN fn.impl_takeRecord [.str (bs d)] = some (.tup [.str (bs x), .bool false])) := by
  obtain ⟨h1, r1, ok1, hq1⟩ : ∃ a b c, cut d [10] = (a, b, c) := ⟨_, _, _, rfl⟩
  obtain ⟨w, r2, ok2, hq2⟩ : ∃ a b c, cut h1 [32] = (a, b, c) := ⟨_, _, _, rfl⟩
  have l1 := cut_len d [10]
  rw [hq1] at l1
  have l2 := cut_len h1 [32]
  rw [hq2] at l2
  simp only at l1 l2
  obtain ⟨n, b, hp, hpp⟩ := impl_numberOf_spec w (by omega)
  have c1 : ∀ H, kN NN fn.strings_Cut [.str (bs d), .str { data := #[10] }] H = some (.tup [.str (bs h1), .str (bs r1), .bool ok1]) := fun H => kN_at (xs := [.str (bs d), .str { data := #[10] }]) (by simp) (by rw [cutc_spec d 10 rfl hd, hq1])
  have c2 : ∀ H, kN NN fn.strings_Cut [.str (bs h1), .str { data := #[32] }] H = some (.tup [.str (bs w), .str (bs r2), .bool ok2]) := fun H => kN_at (xs := [.str (bs h1), .str { data := #[32] }]) (by simp) (by rw [cutc_spec h1 32 rfl (by omega), hq2])
  have p1 : ∀ H, kN NN fn.impl_numberOf [.str (bs w)] H = _ := fun H => kN_at (by simp) hp
  have kl := klenS_bs r1
  have hop : ∀ t, Begins d t → n = t.length ∧ b = true ∧ t.length ≤ r1.length ∧ t = r1.take t.length := fun t h => by
    obtain ⟨R, e1, e2⟩ := h.cuts
    have ht := h.1
    rw [hq1, Prod.mk.injEq, Prod.mk.injEq] at e1
    obtain ⟨rfl, rfl, _⟩ := e1
    rw [hq2, Prod.mk.injEq] at e2
    obtain ⟨z1, z2⟩ := hpp t.length ⟨by omega, by omega, e2.1⟩
    exact ⟨z1, z2, by simp, by rw [List.take_left]⟩
  have fT : ∀ x b H, finN (.tup [.str x, .bool b]) H = some (.tup [.str x, .bool b]) := fun x b H => rfl
  cases b with
  | false =>
    refine .inr ⟨fun t h => absurd (hop t h).2.1 (by simp), [], ?_⟩
    apply S.impl_takeRecord.gives (k := 0)
    have fE : ∀ H, finN (.tup [.str { data := #[] }, .bool false]) H = some (.tup [.str (bs []), .bool false]) := fun H => rfl
    generalize GV.str (bs d) = D at *
    generalize GV.str (bs h1) = E1 at *
    generalize GV.str (bs r1) = E2 at *
    generalize GV.str (bs w) = E3 at *
    generalize GV.str (bs r2) = E4 at *
    simp [S.impl_takeRecord.run, c1, c2, p1, fE, -kN_eq]
  | true =>
    have gm : gmin (.int .i64 5000) (.int .i64 (r1.length : Nat)) = some (.int .i64 (if (r1.length : Int) < 5000 then (r1.length : Int) else 5000)) := rfl
    obtain ⟨M, hM⟩ : ∃ M : Int, (if (r1.length : Int) < 5000 then (r1.length : Int) else 5000) = M := ⟨_, rfl⟩
    rw [hM] at gm
    have i1 : ∀ H, kN NN fn.impl_in [.int .i64 n, .int .i64 0, .int .i64 M] H = _ := fun H => kN_at (by simp) (impl_in_spec n 0 M)
    by_cases hin : 0 ≤ n ∧ n ≤ M
    case neg =>
      refine .inr ⟨fun t h => hin ?_, [], ?_⟩
      · obtain ⟨q1, _, q3, _⟩ := hop t h
        have := h.1
        rw [← hM]
        split <;> omega
      · have hB : (decide (0 ≤ n) && decide (n ≤ M)) = false := by
          rw [Bool.eq_false_iff]; intro h; simp only [Bool.and_eq_true, decide_eq_true_eq] at h; exact hin h
        rw [hB] at i1
        apply S.impl_takeRecord.gives (k := 0)
        have fE : ∀ H, finN (.tup [.str { data := #[] }, .bool false]) H = some (.tup [.str (bs []), .bool false]) := fun H => rfl
        generalize GV.str (bs d) = D at *
        generalize GV.str (bs h1) = E1 at *
        generalize GV.str (bs r1) = E2 at *
        generalize GV.str (bs w) = E3 at *
        generalize GV.str (bs r2) = E4 at *
        simp [S.impl_takeRecord.run, c1, c2, p1, kl, gm, i1, fE, -kN_eq, -gmin_int]
    obtain ⟨j, rfl⟩ : ∃ j : Nat, n = (j : Int) := ⟨n.toNat, by omega⟩
    have hj : j ≤ r1.length ∧ j ≤ 5000 := by
      have := hin.2
      rw [← hM] at this
      split at this <;> omega
    have hB : (decide (0 ≤ (j : Int)) && decide ((j : Int) ≤ M)) = true := by simp only [Bool.and_eq_true, decide_eq_true_eq]; exact hin
    rw [hB] at i1
    obtain ⟨t, ht⟩ : ∃ t, r1.take j = t := ⟨_, rfl⟩
    have htl : t.length = j := by rw [← ht, List.length_take]; omega
    have sl : kslS (.str (bs r1)) none (some (.int .i64 (j : Nat))) none = some (.str (bs t)) := by rw [slS_to hj.1, ht]
    have rc : ∀ H, kN NN fn.impl_Record [.str (bs t)] H = _ := fun H => kN_at (by simp) (impl_Record_spec t (by omega))
    have hp1 : ∀ H, kN NN fn.strings_HasPrefix [.str (bs d), .str (bs (recM t))] H = _ := fun H => kN_at (by simp) (strings_HasPrefix_spec d (recM t))
    have run : NN fn.impl_takeRecord [.str (bs d)] = some (.tup [.str (bs t), .bool (decide ((recM t).length ≤ d.length ∧ d.take (recM t).length = recM t))]) := by
      apply S.impl_takeRecord.gives (k := 0)
      have fT' : ∀ b H, finN (.tup [.str (bs t), .bool b]) H = some (.tup [.str (bs t), .bool b]) := fun b H => rfl
      generalize decide ((recM t).length ≤ d.length ∧ d.take (recM t).length = recM t) = B at *
      generalize GV.str (bs (recM t)) = E6 at *
      generalize GV.str (bs t) = E5 at *
      generalize GV.str (bs d) = D at *
      generalize GV.str (bs h1) = E1 at *
      generalize GV.str (bs r1) = E2 at *
      generalize GV.str (bs w) = E3 at *
      generalize GV.str (bs r2) = E4 at *
      simp [S.impl_takeRecord.run, c1, c2, p1, kl, gm, i1, sl, rc, hp1, fT', -kN_eq, -gmin_int]
    by_cases hb : Begins d t
    · refine .inl ⟨t, hb, by rw [run, decide_eq_true hb.2]⟩
    · refine .inr ⟨fun t' h => hb ?_, t, by rw [run, decide_eq_false fun h => hb ⟨by omega, h⟩]⟩
      obtain ⟨q1, _, _, q4⟩ := hop t' h
      have : t'.length = j := by omega
      rw [this, ht] at q4
      exact q4 ▸ h

/-- How many bytes stand ahead of the first c. -/
def til (c : UInt8) : List UInt8 → Nat
  | [] => 0
  | b :: l => if b = c then 0 else til c l + 1
theorem til_le (c : UInt8) : ∀ (d : List UInt8), til c d ≤ d.length
  | [] => Nat.le_refl _
  | b :: l => by
    have := til_le c l
    by_cases h : b = c <;> simp [til, h]; omega
theorem til_lt (c : UInt8) : ∀ (d : List UInt8) (j : Nat), j < til c d → ∃ h : j < d.length, d[j] ≠ c
  | [], j, h => by simp [til] at h
  | b :: l, j, h => by
    by_cases hb : b = c
    · simp [til, hb] at h
    · simp only [til, hb, if_false] at h
      cases j with
      | zero => exact ⟨by simp, hb⟩
      | succ j =>
        obtain ⟨h1, h2⟩ := til_lt c l j (by omega)
        exact ⟨by simpa using h1, by simpa using h2⟩
theorem til_end (c : UInt8) : ∀ (d : List UInt8), til c d = d.length ∨ ∃ h : til c d < d.length, d[til c d] = c
  | [] => .inl rfl
  | b :: l => by
    by_cases hb : b = c
    · exact .inr ⟨by simp [til, hb], by simp [til, hb]⟩
    · have e : til c (b :: l) = til c l + 1 := by simp [til, hb]
      rcases til_end c l with h | ⟨h1, h2⟩
      · exact .inl (by rw [e, h]; rfl)
      · exact .inr ⟨by rw [e]; simpa using h1, by simp only [e]; simpa using h2⟩
theorem til_app (c : UInt8) : ∀ (B R : List UInt8), c ∉ B → til c (B ++ c :: R) = B.length
  | [], R, _ => by simp [til]
  | b :: B, R, h => by
    have hb : b ≠ c := fun e => h (by simp [e])
    have := til_app c B R (fun hc => h (List.mem_cons_of_mem _ hc))
    simp only [List.cons_append, til, hb, if_false, this, List.length_cons]
theorem l21r_all {R : Type} (k : Nat) (G : KT4 R) (d : List UInt8) (v2 v3 : GV) (H : Heap) (m : Nat) (hd : d.length ≤ 1048576) (hm : til 10 d < m) :
    S.spec_l16Record.l21 k G m (.str (bs d)) v2 v3 (.int .i64 0) H = G (.ext 0) (.str (bs d)) v2 v3 (.int .i64 (til 10 d : Nat)) H := by
  have kl := klenS_bs d
  exact loopTo (n := til 10 d) (m := m) (f := fun r j => S.spec_l16Record.l21 k G r (.str (bs d)) v2 v3 (.int .i64 (j : Nat)) H) (A := G (.ext 0) (.str (bs d)) v2 v3 (.int .i64 (til 10 d : Nat)) H)
    (fun j r hj => by
      obtain ⟨g1, g2⟩ := til_lt 10 _ j hj
      have kb := kbyte_nat (k := .i64) (l := d) g1
      have g3 : (d[j].toNat : Int) ≠ 10 := fun e => g2 (UInt8.toNat_inj.1 (show d[j].toNat = 10 by omega))
      obtain ⟨x, hx⟩ : ∃ x : Int, x = (d[j].toNat : Int) := ⟨_, rfl⟩
      rw [← hx] at kb g3
      have w1 : kbin .add (.int .i64 (j : Nat)) (.int .i64 1) = some (.int .i64 ((j + 1 : Nat) : Int)) := by rw [kbin_add, wrap_id (by omega) (by omega)]; rfl
      have f1 : kbin .lss (.int .i64 (j : Nat)) (.int .i64 (d.length : Nat)) = some (.bool true) := by rw [kbin_lss, decide_eq_true (by omega)]
      generalize GV.str (bs d) = D at *
      generalize GV.int .i64 ((j + 1 : Nat) : Int) = J' at *
      generalize GV.int .i64 (j : Nat) = J at *
      generalize GV.int .i64 (d.length : Nat) = N0 at *
      simp [S.spec_l16Record.l21, kl, kb, w1, f1, g3])
    (fun r => by
      have hend := til_end 10 d
      obtain ⟨n, hn⟩ : ∃ n, til 10 d = n := ⟨_, rfl⟩
      rw [hn]
      rcases hend with h | ⟨h1, h2⟩
      · have f1 : kbin .lss (.int .i64 (n : Nat)) (.int .i64 (d.length : Nat)) = some (.bool false) := by rw [kbin_lss, decide_eq_false (by omega)]
        generalize GV.str (bs d) = D at *
        generalize GV.int .i64 (n : Nat) = J at *
        generalize GV.int .i64 (d.length : Nat) = N0 at *
        simp [S.spec_l16Record.l21, kl, f1]
      · simp only [hn] at h1 h2
        have f1 : kbin .lss (.int .i64 (n : Nat)) (.int .i64 (d.length : Nat)) = some (.bool true) := by rw [kbin_lss, decide_eq_true (by omega)]
        have kb := kbyte_nat (k := .i64) (l := d) h1
        rw [h2, show (((10 : UInt8).toNat : Nat) : Int) = 10 from rfl] at kb
        generalize GV.str (bs d) = D at *
        generalize GV.int .i64 (n : Nat) = J at *
        generalize GV.int .i64 (d.length : Nat) = N0 at *
        simp [S.spec_l16Record.l21, kl, kb, f1]) hm
theorem spec_l16Record_spec (d : List UInt8) (hd : d.length ≤ 1048576) :
    (∃ t, Begins d t ∧ NN fn.spec_l16Record [.str (bs d)] = some (.tup [.str (bs t), .int .i64 ((recM t).length : Nat)])) ∨
    ((∀ t, ¬ Begins d t) ∧ NN fn.spec_l16Record [.str (bs d)] = some (.tup [.str { data := #[] }, .int .i64 0])) := by
  obtain ⟨e, he⟩ : ∃ e, til 10 d = e := ⟨_, rfl⟩
  have hle := til_le 10 d
  have L21 := fun {R : Type} (G : KT4 R) (v2 v3 : GV) (H : Heap) => l21r_all (d.length + 1) G d v2 v3 H (d.length + 1) hd (by omega)
  rw [he] at L21 hle
  have kl := klenS_bs d
  have sl1 : kslS (.str (bs d)) none (some (.int .i64 (e : Nat))) none = some (.str (bs (d.take e))) := slS_to hle
  obtain ⟨ns, b, hr, hh⟩ := spec_l10Read_spec (d.take e) (by rw [List.length_take]; omega)
  have r1 : ∀ H, kN NN fn.spec_l10Read [.str (bs (d.take e))] H = _ := fun H => kN_at (by simp) hr
  have a1 : kbin .add (.int .i64 (e : Nat)) (.int .i64 1) = some (.int .i64 ((e + 1 : Nat) : Int)) := by rw [kbin_add, wrap_id (by omega) (by omega)]; rfl
  have q1 : kbin .eql (.int .i64 (e : Nat)) (.int .i64 (d.length : Nat)) = some (.bool (decide (e = d.length))) := by rw [kbin_eql]; congr 2; rw [Bool.eq_iff_iff]; simp; omega
  have hop : ∀ t, Begins d t → e < d.length ∧ (∃ ns', ns = (t.length : Int) :: ns') ∧ e + 1 + t.length ≤ d.length ∧ (d.take (e + 1 + t.length)).drop (e + 1) = t := fun t h => by
    obtain ⟨R, eq⟩ := h.parts
    have h1 := h.1
    have e1 : e = (itoa t.length ++ 32 :: itoa (sumGo 2 t)).length := by rw [← he, eq]; exact til_app 10 _ _ Begins.ten
    have e2 : d.take e = itoa t.length ++ 32 :: itoa (sumGo 2 t) := by rw [eq, e1, List.take_left]
    have e3 : d.length = e + (1 + t.length + (1 + R.length)) := by rw [eq, List.length_append, ← e1]; simp; omega
    refine ⟨by omega, hh t.length _ (by omega) (by omega) e2, by omega, ?_⟩
    rw [eq, e1]
    rw [show (itoa t.length ++ 32 :: itoa (sumGo 2 t)) ++ 10 :: (t ++ 10 :: R) = ((itoa t.length ++ 32 :: itoa (sumGo 2 t)) ++ [10] ++ t) ++ 10 :: R by simp]
    rw [List.take_left' (by simp; omega), List.drop_left' (by simp; omega)]
  have fF : ∀ H, finN (.tup [.str { data := #[] }, .int .i64 0]) H = some (.tup [.str { data := #[] }, .int .i64 0]) := fun H => rfl
  by_cases g1 : e = d.length
  · refine .inr ⟨fun t h => by have := (hop t h).1; omega, ?_⟩
    rw [decide_eq_true g1] at q1
    apply S.spec_l16Record.gives (k := d.length + 1)
    generalize fzl false 1 ci ns = F at *
    generalize GV.str (bs (d.take e)) = E1 at *
    generalize GV.str (bs d) = D at *
    generalize GV.int .i64 ((e + 1 : Nat) : Int) = J' at *
    generalize GV.int .i64 (e : Nat) = J at *
    generalize GV.int .i64 (d.length : Nat) = N0 at *
    generalize d.length + 1 = K at *
    simp [S.spec_l16Record.run, L21, kl, sl1, r1, a1, q1, fF, -kN_eq]
  rw [decide_eq_false g1] at q1
  cases ns with
  | nil =>
    refine .inr ⟨fun t h => absurd (hop t h).2.1 (fun ⟨_, z⟩ => by cases z), ?_⟩
    have kn : klen (fzl false 1 ci []) = some (.int .i64 0) := by rw [klen_fzl]; rfl
    apply S.spec_l16Record.gives (k := d.length + 1)
    generalize fzl false 1 ci [] = F at *
    generalize GV.str (bs (d.take e)) = E1 at *
    generalize GV.str (bs d) = D at *
    generalize GV.int .i64 ((e + 1 : Nat) : Int) = J' at *
    generalize GV.int .i64 (e : Nat) = J at *
    generalize GV.int .i64 (d.length : Nat) = N0 at *
    generalize d.length + 1 = K at *
    simp [S.spec_l16Record.run, L21, kl, sl1, r1, a1, q1, kn, fF, -kN_eq]
  | cons n ns' =>
    have kn : ∃ N, klen (fzl false 1 ci (n :: ns')) = some N ∧ kbin .lss N (.int .i64 1) = some (.bool false) := ⟨_, klen_fzl, by rw [kbin_lss, decide_eq_false (by simp <;> omega)]⟩
    obtain ⟨N, kn1, kn2⟩ := kn
    have ki : kia 1 (fzl false 1 ci (n :: ns')) (.int .i64 0) = some (elp false ci (n :: ns') 0) := by rw [kia_ci, if_pos ⟨by omega, by simp <;> omega⟩]; rfl
    have ld : ∀ H, kload1 H (elp false ci (n :: ns') 0) = some (.int .i64 n) := fun H => by rw [kload1_ci]; rfl
    have i1 : ∀ H, kN NN fn.spec_l1In [.int .i64 n, .int .i64 0, .int .i64 5000] H = _ := fun H => kN_at (by simp) (spec_l1In_spec n 0 5000)
    generalize fzl false 1 ci (n :: ns') = F at *
    generalize elp false ci (n :: ns') 0 = P0 at *
    by_cases hin : 0 ≤ n ∧ n ≤ 5000
    case neg =>
      refine .inr ⟨fun t h => hin ?_, ?_⟩
      · obtain ⟨_, ⟨ns2, z⟩, _⟩ := hop t h
        have := h.1
        cases z
        omega
      have hB : (decide (0 ≤ n) && decide (n ≤ 5000)) = false := by
        rw [Bool.eq_false_iff]; intro h; simp only [Bool.and_eq_true, decide_eq_true_eq] at h; exact hin h
      rw [hB] at i1
      apply S.spec_l16Record.gives (k := d.length + 1)
      generalize GV.str (bs (d.take e)) = E1 at *
      generalize GV.str (bs d) = D at *
      generalize GV.int .i64 ((e + 1 : Nat) : Int) = J' at *
      generalize GV.int .i64 (e : Nat) = J at *
      generalize GV.int .i64 (d.length : Nat) = N0 at *
      generalize d.length + 1 = K at *
      simp [S.spec_l16Record.run, L21, kl, sl1, r1, a1, q1, kn1, kn2, ki, ld, i1, fF, -kN_eq]
    have hB : (decide (0 ≤ n) && decide (n ≤ 5000)) = true := by simp only [Bool.and_eq_true, decide_eq_true_eq]; exact hin
    rw [hB] at i1
    obtain ⟨j, rfl⟩ : ∃ j : Nat, n = (j : Int) := ⟨n.toNat, by omega⟩
    have s1 : kbin .sub (.int .i64 (d.length : Nat)) (.int .i64 ((e + 1 : Nat) : Int)) = some (.int .i64 ((d.length : Int) - (e + 1 : Nat))) := by rw [kbin_sub, wrap_id (by omega) (by omega)]
    have c1 : kbin .gtr (.int .i64 (j : Nat)) (.int .i64 ((d.length : Int) - (e + 1 : Nat))) = some (.bool (decide (d.length < e + 1 + j))) := by rw [kbin_gtr]; congr 2; rw [Bool.eq_iff_iff]; simp; omega
    by_cases g2 : d.length < e + 1 + j
    · refine .inr ⟨fun t h => ?_, ?_⟩
      · obtain ⟨_, ⟨ns2, z⟩, z2, _⟩ := hop t h
        injection z with z _
        omega
      rw [decide_eq_true g2] at c1
      apply S.spec_l16Record.gives (k := d.length + 1)
      generalize GV.str (bs (d.take e)) = E1 at *
      generalize GV.str (bs d) = D at *
      generalize GV.int .i64 ((d.length : Int) - (e + 1 : Nat)) = M0 at *
      generalize GV.int .i64 ((e + 1 : Nat) : Int) = J' at *
      generalize GV.int .i64 (e : Nat) = J at *
      generalize GV.int .i64 (j : Nat) = Q at *
      generalize GV.int .i64 (d.length : Nat) = N0 at *
      generalize d.length + 1 = K at *
      simp [S.spec_l16Record.run, L21, kl, sl1, r1, a1, q1, kn1, kn2, ki, ld, i1, s1, c1, fF, -kN_eq]
    rw [decide_eq_false g2] at c1
    have a2 : kbin .add (.int .i64 ((e + 1 : Nat) : Int)) (.int .i64 (j : Nat)) = some (.int .i64 ((e + 1 + j : Nat) : Int)) := by rw [kbin_add, wrap_id (by omega) (by omega)]; congr 2
    obtain ⟨t, ht⟩ : ∃ t, (d.take (e + 1 + j)).drop (e + 1) = t := ⟨_, rfl⟩
    have htl : t.length = j := by rw [← ht, List.length_drop, List.length_take]; omega
    have sl2 : kslS (.str (bs d)) (some (.int .i64 ((e + 1 : Nat) : Int))) (some (.int .i64 ((e + 1 + j : Nat) : Int))) none = some (.str (bs t)) := by rw [slS_mid (by omega) (by omega), ht]
    have rc : ∀ H, kN NN fn.spec_Record [.str (bs t)] H = _ := fun H => kN_at (by simp) (spec_Record_spec t (by omega))
    have kr1 := klenS_bs (recM t)
    have c2 : kbin .gtr (.int .i64 ((recM t).length : Nat)) (.int .i64 (d.length : Nat)) = some (.bool (decide (d.length < (recM t).length))) := by rw [kbin_gtr]; congr 2; rw [Bool.eq_iff_iff]; simp
    have hop2 : ∀ t', Begins d t' → t' = t := fun t' h => by
      obtain ⟨_, ⟨ns2, z⟩, _, z3⟩ := hop t' h
      injection z with z _
      have : t'.length = j := by omega
      rw [this, ht] at z3
      exact z3.symm
    by_cases g3 : d.length < (recM t).length
    · refine .inr ⟨fun t' h => ?_, ?_⟩
      · have := hop2 t' h
        subst this
        have := h.2.1
        omega
      rw [decide_eq_true g3] at c2
      apply S.spec_l16Record.gives (k := d.length + 1)
      generalize GV.str (bs (recM t)) = E6 at *
      generalize GV.str (bs t) = E5 at *
      generalize GV.str (bs (d.take e)) = E1 at *
      generalize GV.str (bs d) = D at *
      generalize GV.int .i64 ((d.length : Int) - (e + 1 : Nat)) = M0 at *
      generalize GV.int .i64 ((e + 1 + j : Nat) : Int) = J2 at *
      generalize GV.int .i64 ((e + 1 : Nat) : Int) = J' at *
      generalize GV.int .i64 (e : Nat) = J at *
      generalize GV.int .i64 (j : Nat) = Q at *
      generalize GV.int .i64 ((recM t).length : Nat) = Y at *
      generalize GV.int .i64 (d.length : Nat) = N0 at *
      generalize d.length + 1 = K at *
      cases b <;> simp [S.spec_l16Record.run, L21, kl, sl1, r1, a1, q1, kn1, kn2, ki, ld, i1, s1, c1, a2, sl2, rc, kr1, c2, fF, -kN_eq]
    rw [decide_eq_false g3] at c2
    have sl3 : kslS (.str (bs d)) none (some (.int .i64 ((recM t).length : Nat))) none = some (.str (bs (d.take (recM t).length))) := slS_to (by omega)
    have ne : kbin .neq (.str (bs (d.take (recM t).length))) (.str (bs (recM t))) = some (.bool (decide (d.take (recM t).length ≠ recM t))) := by
      rw [kbin_sneq]; simp only [ne_eq, bs_inj]
    have fT : ∀ H, finN (.tup [.str (bs t), .int .i64 ((recM t).length : Nat)]) H = some (.tup [.str (bs t), .int .i64 ((recM t).length : Nat)]) := fun H => rfl
    have run : NN fn.spec_l16Record [.str (bs d)] = if d.take (recM t).length = recM t then some (.tup [.str (bs t), .int .i64 ((recM t).length : Nat)]) else some (.tup [.str { data := #[] }, .int .i64 0]) := by
      generalize GV.str (bs (d.take (recM t).length)) = E7 at *
      generalize GV.str (bs (recM t)) = E6 at *
      generalize GV.str (bs t) = E5 at *
      generalize GV.str (bs (d.take e)) = E1 at *
      generalize GV.str (bs d) = D at *
      generalize GV.int .i64 ((d.length : Int) - (e + 1 : Nat)) = M0 at *
      generalize GV.int .i64 ((e + 1 + j : Nat) : Int) = J2 at *
      generalize GV.int .i64 ((e + 1 : Nat) : Int) = J' at *
      generalize GV.int .i64 (e : Nat) = J at *
      generalize GV.int .i64 (j : Nat) = Q at *
      generalize GV.int .i64 ((recM t).length : Nat) = Y at *
      generalize GV.int .i64 (d.length : Nat) = N0 at *
      generalize d.length + 1 = K at *
      by_cases g4 : d.take (recM t).length = recM t
      · rw [if_pos g4]
        rw [decide_eq_false (by simpa using g4)] at ne
        apply S.spec_l16Record.gives (k := K)
        cases b <;> simp [S.spec_l16Record.run, L21, kl, sl1, r1, a1, q1, kn1, kn2, ki, ld, i1, s1, c1, a2, sl2, rc, kr1, c2, sl3, ne, fT, -kN_eq]
      · rw [if_neg g4]
        rw [decide_eq_true g4] at ne
        apply S.spec_l16Record.gives (k := K)
        cases b <;> simp [S.spec_l16Record.run, L21, kl, sl1, r1, a1, q1, kn1, kn2, ki, ld, i1, s1, c1, a2, sl2, rc, kr1, c2, sl3, ne, fF, -kN_eq]
    by_cases g4 : d.take (recM t).length = recM t
    · exact .inl ⟨t, ⟨by omega, by omega, g4⟩, by rw [run, if_pos g4]⟩
    · refine .inr ⟨fun t' h => g4 ?_, by rw [run, if_neg g4]⟩
      have := hop2 t' h
      subst this
      exact h.2.2
end Go.Proofs.YtklhdbkaejbajaaDoor.G
