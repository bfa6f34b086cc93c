/- Windows: the functions that the law FnExactWindowOk reaches. -/
import Derived.Test.YtleeifecdjolhaaT2
import Derived.Test.YtleeifecdjolhaaSWin
namespace Go.Proofs.Ytleeifecdjolhaa.G
open Go.RowKit
set_option linter.unusedVariables false
set_option linter.unusedSimpArgs false

theorem impl_in_spec (a b c : Int) : NN fn.impl_in [.int .i64 a, .int .i64 b, .int .i64 c] = some (.bool (decide (b ≤ a) && decide (a ≤ c))) := by
  apply S.impl_in.gives (k := 0)
  simp [S.impl_in.run]
  cases decide (b ≤ a) <;> cases decide (a ≤ c) <;> simp
theorem spec_l1In_spec (a b c : Int) : NN fn.spec_l1In [.int .i64 a, .int .i64 b, .int .i64 c] = some (.bool (decide (b ≤ a) && decide (a ≤ c))) := by
  apply S.spec_l1In.gives (k := 0)
  simp [S.spec_l1In.run]
  cases decide (b ≤ a) <;> cases decide (a ≤ c) <;> simp
theorem spec_l1Max_spec (a b : Int) : NN fn.spec_l1Max [.int .i64 a, .int .i64 b] = some (.int .i64 (max a b)) := by
  apply S.spec_l1Max.gives (k := 0)
  simp [S.spec_l1Max.run]
  cases h : decide (b < a) <;> simp at h ⊢ <;> omega
theorem laws_szInt64S_spec (xs : List Int) (left : Int) (hm : xs.length ≤ maxLen) (hl : -1 ≤ left) (hl' : left ≤ 1048576) :
    NN fn.laws_szInt64S [fzl true 1 ci xs, .int .i64 left] = some (.int .i64 (if left - xs.length < 0 then -1 else left - xs.length)) := by
  apply S.laws_szInt64S.gives (k := 0)
  have w : IntKind.i64.wrap (left - xs.length) = left - xs.length := by rw [wrap_id] <;> simp only [maxLen] at hm <;> omega
  simp [S.laws_szInt64S.run, w]
  by_cases h : left < xs.length
  · have : left - xs.length < 0 := by omega
    simp [h, this]
  · have : ¬ (left - xs.length < 0) := by omega
    simp [h, this]

theorem laws_eqInt64S_spec (xs ys : List Int) (hm : xs.length ≤ maxLen) : NN fn.laws_eqInt64S [fzl true 1 ci xs, fzl true 1 ci ys] = some (.bool (decide (xs = ys))) := by
  apply S.laws_eqInt64S.gives (k := xs.length + 1)
  simp [S.laws_eqInt64S.run]
  by_cases hl : xs.length = ys.length
  · have hi : (xs.length : Int) = ys.length := by omega
    simp [hi]
    refine (loop_all (f := fun r j => S.laws_eqInt64S.l6 _ _ r _ _ _ (.int .i64 (j : Int)) _) (A := some (GV.bool true)) (B := some (GV.bool false)) (n := xs.length) (P := fun j => xs[j]? = ys[j]?) (fun j r hj => ?_) (fun r => ?_) (xs.length + 1) 0 (by omega) (by omega)).trans ?_
    · have h1 : (j : Int) < xs.length := by omega
      have h2 : (j : Int) < ys.length := by omega
      have h3 : j < ys.length := by omega
      have w := wrap_succ (n := j) (by omega)
      simp [S.laws_eqInt64S.l6, h1, h2, get_of hj, get_of h3, w]
    · simp [S.laws_eqInt64S.l6]
    · simp [list_eq_iff hl]
      by_cases hx : xs = ys <;> simp [hx]
  · have : ¬ ((xs.length : Int) = ys.length) := by omega
    have hne : xs ≠ ys := fun h => hl (by rw [h])
    simp [this, hne]

/-- A window that is right. -/
def WinP (top : Int) (xs : List Int) : Prop :=
  if top = -1 then xs = [] else 0 ≤ top ∧ top ≤ 1099511627776 ∧ 0 < xs.length ∧ xs[xs.length - 1]? = some top ∧
    ∀ (j : Nat), j < xs.length → max 0 (top - 31) ≤ xs[j]?.getD 0 ∧ (0 < j → xs[j - 1]?.getD 0 < xs[j]?.getD 0)

abbrev win (t : Bool) (top : Int) (xs : List Int) : GV := .agg [.int .i64 top, fzl t 1 ci xs]

/-- What the loops ask of place j. -/
def WinAt (top : Int) (xs : List Int) (j : Nat) : Prop := max 0 (top - 31) ≤ xs[j]?.getD 0 ∧ (0 < j → xs[j - 1]?.getD 0 < xs[j]?.getD 0)

theorem win_top (top : Int) (xs : List Int) (h : xs[xs.length - 1]? = some top) (ha : ∀ j, j < xs.length → WinAt top xs j) (j : Nat) (hj : j < xs.length) : xs[j]?.getD 0 ≤ top := by
  have key : ∀ d, j + d < xs.length → xs[j]?.getD 0 ≤ xs[j + d]?.getD 0 := by
    intro d
    induction d with
    | zero => intro _; exact Int.le_refl _
    | succ d ih =>
      intro hd
      have h1 := ih (by omega)
      have h2 := (ha (j + (d + 1)) (by omega)).2 (by omega)
      rw [show j + (d + 1) - 1 = j + d by omega] at h2
      omega
  have := key (xs.length - 1 - j) (by omega)
  rw [show j + (xs.length - 1 - j) = xs.length - 1 by omega, h] at this
  exact this

open Classical in
theorem spec_WindowOk_spec (top : Int) (xs : List Int) (hm : xs.length ≤ maxLen) : NN fn.spec_WindowOk [win true top xs] = some (.bool (decide (WinP top xs))) := by
  apply S.spec_WindowOk.gives (k := xs.length + 1)
  by_cases h1 : top = -1
  · subst h1
    simp [S.spec_WindowOk.run, WinP]
  by_cases h2 : 0 ≤ top ∧ top ≤ 1099511627776
  · by_cases h3 : xs.length = 0
    · have : xs = [] := List.eq_nil_of_length_eq_zero h3
      subst this
      simp [S.spec_WindowOk.run, spec_l1In_spec, WinP, h1, h2]
    · have w1 : IntKind.i64.wrap ((xs.length : Int) - 1) = (xs.length : Int) - 1 := by rw [wrap_id] <;> simp only [maxLen] at hm <;> omega
      have h4 : ¬ ((xs.length : Int) < 1) := by omega
      have h5 : (0 : Int) ≤ (xs.length : Int) - 1 ∧ (xs.length : Int) - 1 < xs.length := by omega
      have h5' : (1 : Int) ≤ xs.length := by omega
      have h6 : ((xs.length : Int) - 1).toNat = xs.length - 1 := by omega
      have h7 : xs.length - 1 < xs.length := by omega
      by_cases h8 : xs[xs.length - 1] = top
      · simp [S.spec_WindowOk.run, spec_l1In_spec, h1, h2, h4, h5, h5', h6, w1, get_of h7, h8]
        refine (loop_all (f := fun r j => S.spec_WindowOk.l7 _ _ r _ _ (.int .i64 (j : Int)) _) (A := some (GV.bool true)) (B := some (GV.bool false)) (n := xs.length) (P := WinAt top xs) (fun j r hj => ?_) (fun r => ?_) (xs.length + 1) 0 (by omega) (by omega)).trans ?_
        · have g1 : (j : Int) < xs.length := by omega
          have w := wrap_succ (n := j) (by omega)
          have w2 : IntKind.i64.wrap (top - 31) = top - 31 := by rw [wrap_id] <;> omega
          by_cases c1 : xs[j] < max 0 (top - 31)
          · have : ¬ WinAt top xs j := fun h => by have := h.1; simp only [get_of hj, Option.getD_some] at this; omega
            simp [S.spec_WindowOk.l7, spec_l1Max_spec, g1, get_of hj, w, w2, c1, this]
          · by_cases c2 : 0 < j
            · have w3 : IntKind.i64.wrap ((j : Int) - 1) = (j : Int) - 1 := by rw [wrap_id] <;> simp only [maxLen] at hm <;> omega
              have g2 : (0 : Int) ≤ (j : Int) - 1 ∧ (j : Int) - 1 < xs.length := by omega
              have g2' : (1 : Int) ≤ j := by omega
              have g3 : ((j : Int) - 1).toNat = j - 1 := by omega
              have g4 : j - 1 < xs.length := by omega
              by_cases c3 : xs[j] ≤ xs[j - 1]
              · have : ¬ WinAt top xs j := fun h => by have := h.2 c2; simp only [get_of hj, get_of g4, Option.getD_some] at this; omega
                simp [S.spec_WindowOk.l7, spec_l1Max_spec, g1, get_of hj, w, w2, c1, c2, w3, g2, g2', g3, get_of g4, c3, this]
              · have : WinAt top xs j := ⟨by simp only [get_of hj, Option.getD_some]; omega, fun _ => by simp only [get_of hj, get_of g4, Option.getD_some]; omega⟩
                simp [S.spec_WindowOk.l7, spec_l1Max_spec, g1, get_of hj, w, w2, c1, c2, w3, g2, g2', g3, get_of g4, c3, this]
            · have : WinAt top xs j := ⟨by simp only [get_of hj, Option.getD_some]; omega, fun h => absurd h c2⟩
              simp [S.spec_WindowOk.l7, spec_l1Max_spec, g1, get_of hj, w, w2, c1, c2, this]
        · simp [S.spec_WindowOk.l7]
        · have : WinP top xs ↔ ∀ i, i < xs.length → WinAt top xs i := by
            unfold WinP
            rw [if_neg h1]
            constructor
            · rintro ⟨_, _, _, _, h⟩; exact h
            · intro h; exact ⟨h2.1, h2.2, by omega, by rw [get_of h7, h8], h⟩
          simp only [Nat.zero_le, true_implies, this]
          by_cases hx : ∀ i, i < xs.length → WinAt top xs i
          · rw [if_pos hx, decide_eq_true hx]
          · rw [if_neg hx, decide_eq_false hx]
      · have : ¬ WinP top xs := by
          unfold WinP
          rw [if_neg h1]
          rintro ⟨_, _, _, h, _⟩
          rw [get_of h7] at h
          exact h8 (by simpa using h)
        simp [S.spec_WindowOk.run, spec_l1In_spec, h1, h2, h4, h5, h5', h6, w1, get_of h7, h8, this]
  · have hn : ¬ WinP top xs := by
      unfold WinP
      rw [if_neg h1]
      rintro ⟨ha, hb, _⟩
      exact h2 ⟨ha, hb⟩
    have hb : (decide (0 ≤ top) && decide (top ≤ 1099511627776)) = false := by
      rw [← Bool.decide_and]; simp only [decide_eq_false_iff_not]; exact h2
    have hb' : (!decide (0 ≤ top) || !decide (top ≤ 1099511627776)) = true := by
      rw [← Bool.not_and, hb]; rfl
    simp [S.spec_WindowOk.run, spec_l1In_spec, h1, hb, hb', hn]
open Classical in
theorem impl_WindowOk_spec (top : Int) (xs : List Int) (hm : xs.length ≤ maxLen) (ht : -9223372036854775808 ≤ top) (ht' : top ≤ 9223372036854775807) : NN fn.impl_WindowOk [win true top xs] = some (.bool (decide (WinP top xs))) := by
  apply S.impl_WindowOk.gives (k := xs.length + 1)
  by_cases h1 : top = -1
  · subst h1
    simp [S.impl_WindowOk.run, WinP]
  -- what the loop asks, and what is asked behind it
  let lo := IntKind.i64.wrap (IntKind.i64.wrap (top - 32) + 1)
  let Q : Nat → Prop := fun j => (max 0 lo ≤ xs[j]?.getD 0 ∧ xs[j]?.getD 0 ≤ top) ∧ (0 < j → xs[j - 1]?.getD 0 < xs[j]?.getD 0)
  let T : Prop := (0 ≤ top ∧ top ≤ 1099511627776) ∧ 0 < xs.length ∧ xs[xs.length - 1]? = some top
  simp [S.impl_WindowOk.run, h1]
  refine (loop_all (f := fun r j => S.impl_WindowOk.l8 _ _ r _ _ _ _ (.int .i64 (j : Int)) _) (A := some (GV.bool (decide T))) (B := some (GV.bool false)) (n := xs.length) (P := Q) (fun j r hj => ?_) (fun r => ?_) (xs.length + 1) 0 (by omega) (by omega)).trans ?_
  · have g1 : (j : Int) < xs.length := by omega
    have w := wrap_succ (n := j) (by omega)
    have hlo : IntKind.i64.wrap (IntKind.i64.wrap (top - 32) + 1) = lo := rfl
    have hmx : (if 0 < lo then lo else 0) = max 0 lo := by split <;> omega
    by_cases c1 : max 0 lo ≤ xs[j] ∧ xs[j] ≤ top
    · have hb : (decide (max 0 lo ≤ xs[j]) && decide (xs[j] ≤ top)) = true := by rw [← Bool.decide_and]; exact decide_eq_true c1
      by_cases c2 : 0 < j
      · have w3 : IntKind.i64.wrap ((j : Int) - 1) = (j : Int) - 1 := by rw [wrap_id] <;> simp only [maxLen] at hm <;> omega
        have g2 : (0 : Int) ≤ (j : Int) - 1 ∧ (j : Int) - 1 < xs.length := by omega
        have g2' : (1 : Int) ≤ j := by omega
        have g3 : ((j : Int) - 1).toNat = j - 1 := by omega
        have g4 : j - 1 < xs.length := by omega
        by_cases c3 : xs[j] ≤ xs[j - 1]
        · have hq : ¬ Q j := fun h => by have := h.2 c2; simp only [get_of hj, get_of g4, Option.getD_some] at this; omega
          rw [if_neg hq]
          simp [S.impl_WindowOk.l8, impl_in_spec, g1, get_of hj, w, hlo, hmx, hb, c2, w3, g2, g2', g3, get_of g4, c3]
        · have hq : Q j := ⟨by simp only [get_of hj, Option.getD_some]; exact c1, fun _ => by simp only [get_of hj, get_of g4, Option.getD_some]; omega⟩
          rw [if_pos hq]
          simp [S.impl_WindowOk.l8, impl_in_spec, g1, get_of hj, w, hlo, hmx, hb, c2, w3, g2, g2', g3, get_of g4, c3]
      · have hq : Q j := ⟨by simp only [get_of hj, Option.getD_some]; exact c1, fun h => absurd h c2⟩
        rw [if_pos hq]
        simp [S.impl_WindowOk.l8, impl_in_spec, g1, get_of hj, w, hlo, hmx, hb, c2]
    · have hb : (decide (max 0 lo ≤ xs[j]) && decide (xs[j] ≤ top)) = false := by rw [← Bool.decide_and]; exact decide_eq_false c1
      have hq : ¬ Q j := fun h => by have := h.1; simp only [get_of hj, Option.getD_some] at this; exact c1 this
      rw [if_neg hq]
      simp [S.impl_WindowOk.l8, impl_in_spec, g1, get_of hj, w, hlo, hmx, hb]
  · by_cases c1 : 0 ≤ top ∧ top ≤ 1099511627776
    · by_cases c2 : 0 < xs.length
      · have w1 : IntKind.i64.wrap ((xs.length : Int) - 1) = (xs.length : Int) - 1 := by rw [wrap_id] <;> simp only [maxLen] at hm <;> omega
        have h5' : (1 : Int) ≤ xs.length := by omega
        have h5 : (0 : Int) < xs.length := by omega
        have h5b : (xs.length : Int) - 1 < xs.length := by omega
        have h6 : ((xs.length : Int) - 1).toNat = xs.length - 1 := by omega
        have h7 : xs.length - 1 < xs.length := by omega
        have hT : T ↔ xs[xs.length - 1] = top := by
          simp only [T, c1, c2, get_of h7, true_and, Option.some.injEq]
        simp [S.impl_WindowOk.l8, impl_in_spec, c1, c2, h5, h5', h5b, h6, w1, get_of h7, hT]
      · have hT : ¬ T := fun h => c2 h.2.1
        have h5 : ¬ ((0 : Int) < xs.length) := by omega
        have : xs = [] := List.eq_nil_of_length_eq_zero (by omega)
        subst this
        simp [S.impl_WindowOk.l8, impl_in_spec, c1, hT]
    · have hb : (decide (0 ≤ top) && decide (top ≤ 1099511627776)) = false := by rw [← Bool.decide_and]; exact decide_eq_false c1
      have hT : ¬ T := fun h => c1 h.1
      simp [S.impl_WindowOk.l8, impl_in_spec, hb, hT]
  · have key : WinP top xs ↔ T ∧ ∀ i, i < xs.length → Q i := by
      unfold WinP
      rw [if_neg h1]
      have hlo : 0 ≤ top → top ≤ 1099511627776 → lo = top - 31 := by
        intro a b
        show IntKind.i64.wrap (IntKind.i64.wrap (top - 32) + 1) = top - 31
        rw [wrap_id (n := top - 32) (by omega) (by omega), wrap_id (by omega) (by omega)]
        omega
      constructor
      · rintro ⟨a, b, c, d, e⟩
        refine ⟨⟨⟨a, b⟩, c, d⟩, fun i hi => ⟨⟨?_, win_top top xs d e i hi⟩, (e i hi).2⟩⟩
        rw [hlo a b]
        exact (e i hi).1
      · rintro ⟨⟨⟨a, b⟩, c, d⟩, e⟩
        refine ⟨a, b, c, d, fun i hi => ⟨?_, (e i hi).2⟩⟩
        have := (e i hi).1.1
        rwa [hlo a b] at this
    simp only [Nat.zero_le, true_implies, key]
    by_cases hx : ∀ i, i < xs.length → Q i
    · rw [if_pos hx]
      have : (T ∧ ∀ i, i < xs.length → Q i) ↔ T := ⟨And.left, fun h => ⟨h, hx⟩⟩
      simp only [this]
    · rw [if_neg hx, decide_eq_false (fun h => hx h.2)]

theorem laws_toInt64S_spec (xs : List Int) (hm : xs.length ≤ 1048576) : NN fn.laws_toInt64S [fzl true 1 ci xs] = some (fzl false 1 ci xs) := by
  apply S.laws_toInt64S.gives (k := xs.length + 1)
  have hk : kmake [.int .i64 0] 1 8 (.int .i64 xs.length) (.int .i64 xs.length) [] = some (.sl 0 0 xs.length xs.length 1, [zeros [.int .i64 0] xs.length]) := by
    simp [kmake, maxLen, roomMax]
    omega
  simp [S.laws_toInt64S.run, hk]
  refine (loop_to (f := fun r j => S.laws_toInt64S.l6 _ _ r _ _ _ (.int .i64 (j : Int)) [fill ci [.int .i64 0] xs j]) (A := some (fzl false 1 ci xs)) (n := xs.length) (fun j r hj => ?_) (fun r => ?_) (xs.length + 1) 0 (by omega) (by omega))
  · have g1 : (j : Int) < xs.length := by omega
    have w := wrap_succ (n := j) (by simp only [maxLen]; omega)
    have fl := fill_len (mk := ci) (z := [.int .i64 0]) (es := 1) (fun _ => rfl) rfl xs j (by omega)
    have fs := fill_step (mk := ci) (z := [.int .i64 0]) (es := 1) (fun _ => rfl) rfl xs j hj
    simp only [Nat.mul_one] at fl fs
    have hj' : j + 1 ≤ xs.length := hj
    simp [S.laws_toInt64S.l6, g1, get_of hj, hj, hj', w, fl, fs, -splice]
  · simp [S.laws_toInt64S.l6]
    exact finN_of (frz_sl (mk := ci) (mk' := ci) (rest := []) (fun _ => rfl) (by simp) (by simp [len_flat (mk := ci) (es := 1) (fun _ => rfl)]) (Nat.le_refl _) (fun a _ => .ci))

theorem laws_toWindow_spec (top : Int) (xs : List Int) (hm : xs.length ≤ 1048576) : NN fn.laws_toWindow [win true top xs] = some (win false top xs) := by
  apply S.laws_toWindow.gives (k := 0)
  simp [S.laws_toWindow.run, laws_toInt64S_spec xs hm]
  exact finN_of (frz_agg (.cons frz_int (.cons frz_fzl .nil)))
theorem laws_szWindow_spec (top : Int) (xs : List Int) (left : Int) (hm : xs.length ≤ maxLen) (hl : -1 ≤ left) (hl' : left ≤ 1048576) :
    NN fn.laws_szWindow [win true top xs, .int .i64 left] = some (.int .i64 (if left - xs.length < 0 then -1 else left - xs.length)) := by
  apply S.laws_szWindow.gives (k := 0)
  simp [S.laws_szWindow.run, laws_szInt64S_spec xs left hm hl hl']
  by_cases h : left - xs.length < 0
  · rw [if_pos h]; rfl
  · rw [if_neg h, decide_eq_false h]; rfl
theorem laws_eqWindow_spec (a b : Int) (xs ys : List Int) (hm : xs.length ≤ maxLen) : NN fn.laws_eqWindow [win true a xs, win true b ys] = some (.bool (decide (a = b) && decide (xs = ys))) := by
  apply S.laws_eqWindow.gives (k := 0)
  simp [S.laws_eqWindow.run, laws_eqInt64S_spec xs ys hm]
  by_cases h1 : a = b <;> by_cases h2 : xs = ys <;> simp [h1, h2]
theorem laws_FnExactWindowOk_spec (top : Int) (xs : List Int) (hm : xs.length ≤ maxLen) (ht : -9223372036854775808 ≤ top) (ht' : top ≤ 9223372036854775807) : NN fn.laws_FnExactWindowOk [win true top xs] = some (.bool true) := by
  apply S.laws_FnExactWindowOk.gives (k := 0)
  by_cases h : (1048576 : Int) < xs.length
  · have : (if (1048576 : Int) - xs.length < 0 then (-1 : Int) else 1048576 - xs.length) = -1 := by rw [if_pos (by omega)]
    simp [S.laws_FnExactWindowOk.run, laws_szWindow_spec top xs 1048576 hm (by omega) (by omega), this]
  · have h1 : (if (1048576 : Int) - xs.length < 0 then (-1 : Int) else 1048576 - xs.length) = 1048576 - xs.length := by rw [if_neg (by omega)]
    have h2 : ¬ ((1048576 : Int) - xs.length < 0) := by omega
    simp [S.laws_FnExactWindowOk.run, laws_szWindow_spec top xs 1048576 hm (by omega) (by omega), h, h1, h2, laws_toWindow_spec top xs (by omega), spec_WindowOk_spec top xs hm, impl_WindowOk_spec top xs hm ht ht', laws_eqWindow_spec top top xs xs hm]
end Go.Proofs.Ytleeifecdjolhaa.G
