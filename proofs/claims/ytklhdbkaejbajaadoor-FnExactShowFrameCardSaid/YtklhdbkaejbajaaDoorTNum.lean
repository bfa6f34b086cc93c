/- Decimal numerals: what the program and the reference make of a number. -/
import Derived.Test.YtklhdbkaejbajaaDoorTStr
import Derived.Test.YtklhdbkaejbajaaDoorSN
namespace Go.Proofs.YtklhdbkaejbajaaDoor.G
open Go.RowKit Go.Lib
set_option linter.unusedVariables false
set_option linter.unusedSimpArgs false

/-- A loop that keeps something. -/
theorem loop_inv {Q T : Type} {n : Nat} {Inv : Nat → T → Prop} {f : Nat → Nat → T → Q} {A : T → Q} (h1 : ∀ j r s, j < n → Inv j s → ∃ s', f (r + 1) j s = f r (j + 1) s' ∧ Inv (j + 1) s') (h2 : ∀ r s, Inv n s → f (r + 1) n s = A s) {s : T} (h0 : Inv 0 s) {m : Nat} (hm : n < m) : ∃ s', f m 0 s = A s' ∧ Inv n s' := by
  have key : ∀ m j s, n - j < m → j ≤ n → Inv j s → ∃ s', f m j s = A s' ∧ Inv n s' := by
    intro m
    induction m with
    | zero => intro j s h; omega
    | succ m ih =>
      intro j s hm hj hi
      rcases Nat.lt_or_ge j n with h | h
      · obtain ⟨s', a1, a2⟩ := h1 j m s h hi
        obtain ⟨s'', b1, b2⟩ := ih (j + 1) s' (by omega) (by omega) a2
        exact ⟨s'', a1.trans b1, b2⟩
      · have : j = n := by omega
        subst this
        exact ⟨s, h2 m s hi, hi⟩
  exact key m 0 s (by omega) (by omega) h0
theorem kN_at {f : FuncId} {args xs : List GV} {H : Heap} {v : GV} (hb : bors H args = some xs) (h : NN f xs = some v) : kN NN f args H = some v := by rw [kN_eq, hb]; exact h
theorem bs_nil_eq {s : List UInt8} : (decide (bs s = { data := #[] })) = decide (s = []) := by
  have : bs s = { data := #[] } ↔ s = [] := by
    rw [show ({ data := #[] } : ByteArray) = bs [] from rfl, bs_inj]
  rw [Bool.eq_iff_iff]; simp [this]
theorem tmod10 (m : Int) : (m.tmod 10).natAbs = m.natAbs % 10 ∧ (m.tdiv 10).natAbs = m.natAbs / 10 := by
  constructor
  · rw [Int.natAbs_tmod]; rfl
  · rw [Int.natAbs_tdiv]; rfl
theorem gfill_one {v : GV} {z : List GV} (hz : z.length = 1) (hv : v.cells = [v]) : gfill (fun i => some (i * 1, 1)) (zeros z 1) [(0, v)] = some [v] := by
  obtain ⟨y, rfl⟩ := List.length_eq_one_iff.1 hz
  simp [gfill, zeros, hv, splice]
theorem gfill_one' {v : GV} {z : List GV} (hz : z.length = 1) (hv : v.cells = [v]) : gfill (fun i => some (i, 1)) (zeros z 1) [(0, v)] = some [v] := by
  have := gfill_one hz hv
  simpa using this
theorem kbstr_one {c : UInt8} {x : Int} {H : Heap} (hx : x = (c.toNat : Int)) : kbstr (H ++ [[GV.int .u8 x]]) (.sl H.length 0 1 1 1) = some (.str (bs [c])) := by
  subst hx
  exact kbstr_at (l := [c]) (rest := []) (R := []) (by simp) (by simp) (by simp)
theorem l3_step {R : Type} (k : Nat) (G : KT3 R) (r : Nat) (m : Int) (s : List UInt8) (v2 b : GV) (h : Heap) (h1 : -9223372036854775808 ≤ m) (h2 : m ≤ 9223372036854775807) (hc : s = [] ∨ m ≠ 0) (hs : s.length ≤ 100) :
    ∃ h', S.spec_l3Int.l8 k G (r + 1) (.int .i64 m) v2 (.str (bs s)) b h = S.spec_l3Int.l8 k G r (.int .i64 (m.tdiv 10)) v2 (.str (bs (UInt8.ofNat (48 + m.natAbs % 10) :: s))) b h' := by
  obtain ⟨t1, t2⟩ := tmod10 m
  have q : kbin .quo (.int .i64 m) (.int .i64 10) = some (.int .i64 (m.tdiv 10)) := by
    rw [kbin_quo (by omega), wrap_id] <;> omega
  have rm : kbin .rem (.int .i64 m) (.int .i64 10) = some (.int .i64 (m.tmod 10)) := kbin_rem (by omega)
  have fin : kconvI .u8 (.int .i64 (48 + (m.natAbs % 10 : Nat))) = some (.int .u8 ((UInt8.ofNat (48 + m.natAbs % 10)).toNat : Int)) := by
    rw [kconvI_int, u8_of (by omega), wrap8 (by omega) (by omega)]
    simp
  obtain ⟨D, hD⟩ : ∃ D : Int, D = (m.natAbs % 10 : Nat) := ⟨_, rfl⟩
  have hD9 : 0 ≤ D ∧ D ≤ 9 := by omega
  rw [← hD] at fin
  obtain ⟨c, hcc⟩ : ∃ c, UInt8.ofNat (48 + m.natAbs % 10) = c := ⟨_, rfl⟩
  rw [hcc] at fin ⊢
  have e1 : kbin .add (.str (bs [c])) (.str (bs s)) = some (.str (bs (c :: s))) := kadd_bs (a := [c]) (by simp only [List.length_singleton, maxLen]; omega)
  obtain ⟨x, hx⟩ : ∃ x : Int, x = (c.toNat : Int) := ⟨_, rfl⟩
  rw [← hx] at fin
  have w : IntKind.i64.wrap (48 + D) = 48 + D := wrap_id (by omega) (by omega)
  have g := kbstr_one (H := h) hx
  have gf := gfill_one' (v := .int .u8 x) (z := [.int .u8 0]) rfl rfl
  have hne : s = [] → kbin .eql (.str (bs s)) (.str { data := #[] }) = some (.bool true) := fun hs => by rw [kbin_seql, bs_nil_eq, decide_eq_true hs]
  have hne' : s ≠ [] → kbin .eql (.str (bs s)) (.str { data := #[] }) = some (.bool false) := fun hs => by rw [kbin_seql, bs_nil_eq, decide_eq_false hs]
  obtain ⟨S0, hS0⟩ : ∃ S0, GV.str (bs s) = S0 := ⟨_, rfl⟩
  rw [hS0] at hne hne' e1 ⊢
  refine ⟨h ++ [[GV.int .u8 x]], ?_⟩
  generalize hT : GV.str (bs (c :: s)) = T at *
  generalize hU : GV.str (bs [c]) = U at *
  have fin' : kconvI .u8 (.int .i64 (48 + D)) = some (.int .u8 x) := fin
  by_cases hneg : m.tmod 10 < 0
  · have w2 : IntKind.i64.wrap (-(m.tmod 10)) = D := by rw [wrap_id] <;> omega
    by_cases hs0 : s = []
    · simp [S.spec_l3Int.l8, hne hs0, rm, hneg, w2, w, fin', gf, kbs_eq, g, q, e1, -kconvI_int]
    · simp [S.spec_l3Int.l8, hne' hs0, hc.resolve_left hs0, rm, hneg, w2, w, fin', gf, kbs_eq, g, q, e1, -kconvI_int]
  · have hd : m.tmod 10 = D := by omega
    have hD0 : ¬ (D < 0) := by omega
    by_cases hs0 : s = []
    · simp [S.spec_l3Int.l8, hne hs0, rm, hneg, hd, hD0, w, fin', gf, kbs_eq, g, q, e1, -kconvI_int]
    · simp [S.spec_l3Int.l8, hne' hs0, hc.resolve_left hs0, rm, hneg, hd, hD0, w, fin', gf, kbs_eq, g, q, e1, -kconvI_int]
theorem l3_loop {R : Type} (k : Nat) (G : KT3 R) (v2 b : GV) : ∀ (r : Nat) (m : Int) (s : List UInt8) (h : Heap), -9223372036854775808 ≤ m → m ≤ 9223372036854775807 → s ≠ [] → m.natAbs < 10 ^ r → s.length + r ≤ 100 →
    ∃ h', S.spec_l3Int.l8 k G (r + 1) (.int .i64 m) v2 (.str (bs s)) b h = G (.ext 0) v2 (.str (bs (decGo m.natAbs s))) b h' := by
  intro r
  induction r with
  | zero =>
    intro m s h h1 h2 hs hr hl
    have hm : m = 0 := by simp at hr; omega
    subst hm
    refine ⟨h, ?_⟩
    have e : decGo (0 : Int).natAbs s = s := by simp [decGo]
    rw [e]
    have q : kbin .eql (.str (bs s)) (.str { data := #[] }) = some (.bool false) := by rw [kbin_seql, bs_nil_eq, decide_eq_false hs]
    generalize GV.str (bs s) = S0 at *
    simp [S.spec_l3Int.l8, q]
  | succ r ih =>
    intro m s h h1 h2 hs hr hl
    by_cases hm : m = 0
    · subst hm
      refine ⟨h, ?_⟩
      have e : decGo (0 : Int).natAbs s = s := by simp [decGo]
      rw [e]
      have q : kbin .eql (.str (bs s)) (.str { data := #[] }) = some (.bool false) := by rw [kbin_seql, bs_nil_eq, decide_eq_false hs]
      generalize GV.str (bs s) = S0 at *
      simp [S.spec_l3Int.l8, q]
    · obtain ⟨h', e⟩ := l3_step k G (r + 1) m s v2 b h h1 h2 (.inr hm) (by omega)
      obtain ⟨t1, t2⟩ := tmod10 m
      obtain ⟨h'', e2⟩ := ih (m.tdiv 10) (UInt8.ofNat (48 + m.natAbs % 10) :: s) h' (by omega) (by omega) (by simp) (by rw [t2]; rw [Nat.pow_succ] at hr; omega) (by simp; omega)
      refine ⟨h'', e.trans (e2.trans ?_)⟩
      rw [t2, ← decGo_step s (by omega)]
theorem spec_l3Int_spec (n : Int) (h1 : -9223372036854775808 ≤ n) (h2 : n ≤ 9223372036854775807) : NN fn.spec_l3Int [.int .i64 n] = some (.str (bs (itoa n))) := by
  apply S.spec_l3Int.gives (k := 22)
  obtain ⟨t1, t2⟩ := tmod10 n
  have key : ∀ {R : Type} (G : KT3 R) (v2 b : GV) (h : Heap), ∃ h', S.spec_l3Int.l8 22 G 22 (.int .i64 n) v2 (.str (bs [])) b h = G (.ext 0) v2 (.str (bs (decDigits n.natAbs))) b h' := by
    intro R G v2 b h
    obtain ⟨h', e⟩ := l3_step 22 G 21 n [] v2 b h h1 h2 (.inl rfl) (by simp)
    obtain ⟨h'', e2⟩ := l3_loop 22 G v2 b 20 (n.tdiv 10) [UInt8.ofNat (48 + n.natAbs % 10)] h' (by omega) (by omega) (by simp) (by rw [t2]; omega) (by simp)
    refine ⟨h'', e.trans (e2.trans ?_)⟩
    rw [t2, ← decDigits_go]
  have hl := itoa_len h1 h2
  by_cases hn : n < 0
  · have e : itoa n = [45] ++ decDigits n.natAbs := by unfold itoa; rw [if_pos hn]; rfl
    rw [e] at hl ⊢
    have ad := kadd_bs (a := [45]) (b := decDigits n.natAbs) (by simp only [maxLen]; rw [List.length_append] at hl; omega)
    simp only [S.spec_l3Int.run, S.spec_l3Int.n0, S.spec_l3Int.n1, S.spec_l3Int.n2, kbin_lss, Option.bind_some, S.spec_l3Int.n3, S.spec_l3Int.n7, S.spec_l3Int.n8]
    obtain ⟨h', k'⟩ := key (R := GV) (fun x v2 v3 v4 h => kb 0 x fun x => kx x (S.spec_l3Int.n4 22 (fun x v2 h => kend x (finN v2 h)) v2 v3 v4 h) (kend x (finN v2 h))) (.str (bs [])) (.bool (decide (n < 0))) []
    refine k'.trans ?_
    rw [show ([45] : List UInt8) ++ decDigits n.natAbs = [45] ++ decDigits n.natAbs from rfl]
    have fT : ∀ h, finN (.str (bs ([45] ++ decDigits n.natAbs))) h = some (.str (bs ([45] ++ decDigits n.natAbs))) := fun _ => rfl
    generalize GV.str (bs ([45] ++ decDigits n.natAbs)) = T at *
    generalize GV.str (bs (decDigits n.natAbs)) = U at *
    have ad' : kbin .add (.str { data := #[45] }) U = some T := ad
    simp [hn, ad', fT]
  · have e : itoa n = decDigits n.natAbs := by unfold itoa; rw [if_neg hn]; congr 1; omega
    rw [e]
    simp only [S.spec_l3Int.run, S.spec_l3Int.n0, S.spec_l3Int.n1, S.spec_l3Int.n2, kbin_lss, Option.bind_some, S.spec_l3Int.n3, S.spec_l3Int.n7, S.spec_l3Int.n8]
    obtain ⟨h', k'⟩ := key (R := GV) (fun x v2 v3 v4 h => kb 0 x fun x => kx x (S.spec_l3Int.n4 22 (fun x v2 h => kend x (finN v2 h)) v2 v3 v4 h) (kend x (finN v2 h))) (.str (bs [])) (.bool (decide (n < 0))) []
    refine k'.trans ?_
    simp [hn]
theorem impl_decimal_spec (n : Int) (h1 : -9223372036854775808 ≤ n) (h2 : n ≤ 9223372036854775807) : NN fn.impl_decimal [.int .i64 n] = some (.str (bs (itoa n))) := by
  apply S.impl_decimal.gives (k := 0)
  have e : NN fn.strconv_FormatInt [.int .i64 n, .int .i64 10] = some (.str (bs (itoa n))) := by
    show rFormatInt [.int .i64 n, .int .i64 10] = _
    show (if -9223372036854775808 ≤ n ∧ n ≤ 9223372036854775807 then _ else _) = _
    exact if_pos ⟨h1, h2⟩
  simp [S.impl_decimal.run, e]

/-! Mixing. -/
def mix1 (h m : Int) : Int := (h * 48271 + m + 11) % 2147483647
def clp (a : Int) : Int := max a 0 % 2147483647
def mixM (a b : Int) : Int := mix1 (mix1 (mix1 (mix1 (clp a) (clp b)) (clp b)) (clp b)) (clp b)
theorem clp_b (a : Int) : 0 ≤ clp a ∧ clp a < 2147483647 := by unfold clp; omega
theorem mix1_b (a b : Int) : 0 ≤ mix1 a b ∧ mix1 a b < 2147483647 := by unfold mix1; omega
theorem mixM_b (a b : Int) : 0 ≤ mixM a b ∧ mixM a b < 2147483647 := mix1_b _ _
theorem rem_p {a : Int} (h : 0 ≤ a) : kbin .rem (.int .i64 a) (.int .i64 2147483647) = some (.int .i64 (a % 2147483647)) := by
  rw [kbin_rem (by omega), Int.tmod_eq_emod_of_nonneg h]
theorem mix_words {h m : Int} (h1 : 0 ≤ h) (h2 : h < 2147483647) (m1 : 0 ≤ m) (m2 : m < 2147483647) :
    IntKind.i64.wrap (h * 48271) = h * 48271 ∧ IntKind.i64.wrap (h * 48271 + m) = h * 48271 + m ∧ IntKind.i64.wrap (h * 48271 + m + 11) = h * 48271 + m + 11 ∧ kbin .rem (.int .i64 (h * 48271 + m + 11)) (.int .i64 2147483647) = some (.int .i64 (mix1 h m)) :=
  ⟨wrap_id (by omega) (by omega), wrap_id (by omega) (by omega), wrap_id (by omega) (by omega), rem_p (by omega)⟩
theorem rem_clp (a : Int) : kbin .rem (.int .i64 (max a 0)) (.int .i64 2147483647) = some (.int .i64 (clp a)) := rem_p (by omega)
theorem gmax_max (a b : Int) : gmax (.int .i64 a) (.int .i64 b) = some (.int .i64 (max a b)) := by
  rw [gmax_int]; congr 2; omega
theorem iMix_step {R : Type} {k : Nat} {G : KT2 R} {r : Nat} {v4 : GV} {y m j : Int} {h : Heap} (a1 : 0 ≤ y ∧ y < 2147483647) (b1 : 0 ≤ m ∧ m < 2147483647) (hj : 0 ≤ j ∧ j < 4) :
    S.impl_Mix.l6 k G (r + 1) v4 (.int .i64 y) (.int .i64 m) (.int .i64 j) h = S.impl_Mix.l6 k G r v4 (.int .i64 (mix1 y m)) (.int .i64 m) (.int .i64 (j + 1)) h := by
  obtain ⟨s1, s2, s3, s4⟩ := mix_words a1.1 a1.2 b1.1 b1.2
  have w : IntKind.i64.wrap (j + 1) = j + 1 := wrap_id (by omega) (by omega)
  simp [S.impl_Mix.l6, s1, s2, s3, s4, w, hj.2]
theorem iMix_end {R : Type} {k : Nat} {G : KT2 R} {r : Nat} {v4 y m : GV} {h : Heap} : S.impl_Mix.l6 k G (r + 1) v4 y m (.int .i64 4) h = G (.ext 0) v4 y h := by
  simp [S.impl_Mix.l6]
theorem impl_Mix_spec (a b : Int) : NN fn.impl_Mix [.int .i64 a, .int .i64 b] = some (.int .i64 (mixM a b)) := by
  apply S.impl_Mix.gives (k := 5)
  have hb := clp_b b
  have ha := clp_b a
  have ca := rem_clp a
  have cb := rem_clp b
  simp only [S.impl_Mix.run, S.impl_Mix.n0, S.impl_Mix.n1, S.impl_Mix.n2, S.impl_Mix.n4, S.impl_Mix.n5, S.impl_Mix.n6, gmax_max, ca, cb, Option.bind_some]
  unfold mixM
  rw [iMix_step ha hb (by decide), iMix_step (mix1_b _ _) hb (by decide), iMix_step (mix1_b _ _) hb (by decide), iMix_step (mix1_b _ _) hb (by decide)]
  simp only [show (0 : Int) + 1 + 1 + 1 + 1 = 4 from rfl, iMix_end]
  rfl
theorem spec_l1Max_spec (a b : Int) : NN fn.spec_l1Max [.int .i64 a, .int .i64 b] = some (.int .i64 (max a b)) := by
  apply S.spec_l1Max.gives (k := 0)
  simp [S.spec_l1Max.run]
  cases h : decide (b < a) <;> simp at h ⊢ <;> omega
theorem rem_clp' (a : Int) : kbin .rem (.int .i64 (max 0 a)) (.int .i64 2147483647) = some (.int .i64 (clp a)) := by rw [Int.max_comm]; exact rem_clp a
theorem sMix_step {R : Type} {k : Nat} {G : KT2 R} {r : Nat} {v4 : GV} {y b j : Int} {h : Heap} (a1 : 0 ≤ y ∧ y < 2147483647) (hj : 0 ≤ j ∧ j < 4) :
    S.spec_Mix.l6 k G (r + 1) (.int .i64 b) v4 (.int .i64 y) (.int .i64 j) h = S.spec_Mix.l6 k G r (.int .i64 b) v4 (.int .i64 (mix1 y (clp b))) (.int .i64 (j + 1)) h := by
  have hb := clp_b b
  obtain ⟨s1, s2, s3, s4⟩ := mix_words a1.1 a1.2 hb.1 hb.2
  have w : IntKind.i64.wrap (j + 1) = j + 1 := wrap_id (by omega) (by omega)
  have cb := rem_clp' b
  have mx := spec_l1Max_spec 0 b
  generalize clp b = m at *
  simp [S.spec_Mix.l6, s1, s2, s3, s4, w, hj.2, mx, cb]
theorem sMix_end {R : Type} {k : Nat} {G : KT2 R} {r : Nat} {v4 y m : GV} {h : Heap} : S.spec_Mix.l6 k G (r + 1) m v4 y (.int .i64 4) h = G (.ext 0) v4 y h := by
  simp [S.spec_Mix.l6]
theorem spec_Mix_spec (a b : Int) : NN fn.spec_Mix [.int .i64 a, .int .i64 b] = some (.int .i64 (mixM a b)) := by
  apply S.spec_Mix.gives (k := 5)
  have ha := clp_b a
  have ca := rem_clp' a
  have mx : kN NN fn.spec_l1Max [.int .i64 0, .int .i64 a] [] = some (.int .i64 (max 0 a)) := kN_at (by simp) (spec_l1Max_spec 0 a)
  simp only [S.spec_Mix.run, S.spec_Mix.n0, S.spec_Mix.n1]
  rw [mx, Option.bind_some, ca, Option.bind_some]
  simp only [S.spec_Mix.n2, S.spec_Mix.n4, S.spec_Mix.n5, S.spec_Mix.n6]
  unfold mixM
  rw [sMix_step ha (by decide), sMix_step (mix1_b _ _) (by decide), sMix_step (mix1_b _ _) (by decide), sMix_step (mix1_b _ _) (by decide)]
  simp only [show (0 : Int) + 1 + 1 + 1 + 1 = 4 from rfl, sMix_end]
  rfl

/-! Sums of texts. -/
def sumGo (s : Int) (l : List UInt8) : Int := l.foldl (fun s b => mixM s b.toNat) s
theorem sumGo_b {s : Int} {l : List UInt8} (h : 0 ≤ s ∧ s < 2147483647) : 0 ≤ sumGo s l ∧ sumGo s l < 2147483647 := by
  unfold sumGo
  induction l generalizing s with
  | nil => exact h
  | cons x l ih => exact ih (mixM_b _ _)
theorem wrap8_64 (b : UInt8) : IntKind.i64.wrap (b.toNat : Int) = b.toNat := by
  have := u8_lt b
  exact wrap_id (by omega) (by omega)
theorem foldl_take {α β : Type} {f : β → α → β} {l : List α} {s : β} {j : Nat} (hj : j < l.length) : (l.take (j + 1)).foldl f s = f ((l.take j).foldl f s) l[j] := by
  rw [List.take_add_one, List.getElem?_eq_getElem hj, List.foldl_append]; rfl
theorem impl_Sum_spec (l : List UInt8) (hl : l.length ≤ 1048576) : NN fn.impl_Sum [.str (bs l)] = some (.int .i64 (sumGo 2 l)) := by
  apply S.impl_Sum.gives (k := l.length + 1)
  simp only [S.impl_Sum.run, S.impl_Sum.n0, S.impl_Sum.n1, S.impl_Sum.n2, S.impl_Sum.n4, klenS_str, Option.bind_some, S.impl_Sum.n5, S.impl_Sum.n6, bs_size]
  have key := loop_inv (Inv := fun j (s : Int) => s = sumGo 2 (l.take j)) (n := l.length) (f := fun r j s => S.impl_Sum.l6 (l.length + 1) (fun x v2 v3 h => kb 0 x fun x => kx x (S.impl_Sum.n3 (l.length + 1) (fun x v2 h => kend x (finN v2 h)) v3 h) (kend x (finN v2 h))) r (.str (bs l)) (.int .i64 0) (.int .i64 s) (.int .i64 (l.length : Nat)) (.int .i64 (j : Int)) []) (A := fun s => some (GV.int .i64 s)) (m := l.length + 1)
    (fun j r s hj hs => ⟨sumGo 2 (l.take (j + 1)), by
      have h1 : (j : Int) < l.length := by omega
      have w := wrap_succ (n := j) (by simp only [maxLen]; omega)
      have kb := kbyte_nat (k := .i64) (l := l) hj
      have e : sumGo 2 (l.take (j + 1)) = mixM s l[j].toNat := by rw [hs]; exact foldl_take hj
      rw [e]
      generalize GV.str (bs l) = L at *
      simp [S.impl_Sum.l6, h1, kb, wrap8_64, impl_Mix_spec, w], rfl⟩)
    (fun r s hs => by simp [S.impl_Sum.l6]) (s := 2) rfl (by omega)
  obtain ⟨s', k1, k2⟩ := key
  rw [List.take_length] at k2
  rw [k2] at k1
  exact k1
theorem spec_Sum_spec (l : List UInt8) (hl : l.length ≤ 1048576) : NN fn.spec_Sum [.str (bs l)] = some (.int .i64 (sumGo 2 l)) := by
  apply S.spec_Sum.gives (k := l.length + 1)
  simp only [S.spec_Sum.run, S.spec_Sum.n0, S.spec_Sum.n1, S.spec_Sum.n2, S.spec_Sum.n4, klenS_str, Option.bind_some, S.spec_Sum.n5, S.spec_Sum.n6, bs_size]
  have key := loop_inv (Inv := fun j (s : Int) => s = sumGo 2 (l.take j)) (n := l.length) (f := fun r j s => S.spec_Sum.l6 (l.length + 1) (fun x v2 v3 h => kb 0 x fun x => kx x (S.spec_Sum.n3 (l.length + 1) (fun x v2 h => kend x (finN v2 h)) v3 h) (kend x (finN v2 h))) r (.str (bs l)) (.int .i64 0) (.int .i64 s) (.int .i64 (j : Int)) []) (A := fun s => some (GV.int .i64 s)) (m := l.length + 1)
    (fun j r s hj hs => ⟨sumGo 2 (l.take (j + 1)), by
      have h1 : (j : Int) < l.length := by omega
      have w := wrap_succ (n := j) (by simp only [maxLen]; omega)
      have kb := kbyte_nat (k := .i64) (l := l) hj
      have kl : klenS (.str (bs l)) = some (.int .i64 (l.length : Nat)) := by rw [klenS_str, bs_size]
      have e : sumGo 2 (l.take (j + 1)) = mixM s l[j].toNat := by rw [hs]; exact foldl_take hj
      rw [e]
      generalize GV.str (bs l) = L at *
      simp [S.spec_Sum.l6, h1, kb, kl, wrap8_64, spec_Mix_spec, w], rfl⟩)
    (fun r s hs => by
      have kl : klenS (.str (bs l)) = some (.int .i64 (l.length : Nat)) := by rw [klenS_str, bs_size]
      generalize GV.str (bs l) = L at *
      simp [S.spec_Sum.l6, kl]) (s := 2) rfl (by omega)
  obtain ⟨s', k1, k2⟩ := key
  rw [List.take_length] at k2
  rw [k2] at k1
  exact k1

end Go.Proofs.YtklhdbkaejbajaaDoor.G
