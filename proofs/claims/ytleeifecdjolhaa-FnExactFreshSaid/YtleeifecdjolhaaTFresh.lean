/- Windows: what the law FnExactFresh reaches beyond them. -/
import Derived.Test.YtleeifecdjolhaaTWin
import Derived.Test.YtleeifecdjolhaaSFresh
namespace Go.Proofs.Ytleeifecdjolhaa.G
open Go.RowKit
set_option linter.unusedVariables false
set_option linter.unusedSimpArgs false

theorem slices_Index_int64_spec (xs : List Int) (n : Int) (hm : xs.length ≤ maxLen) : NN fn.slices_Index_int64 [fzl true 1 ci xs, .int .i64 n] = some (.int .i64 (if n ∈ xs then (xs.idxOf n : Int) else -1)) := by
  apply S.slices_Index_int64.gives (k := xs.length + 1)
  simp [S.slices_Index_int64.run]
  have key : ∀ (d j r : Nat), j + d = xs.length → d < r → ∀ k G h v4, (∀ v h, G (.ext 0) v h = some (GV.int .i64 (-1))) → (∀ v h, G .ret v h = finN v h) →
      S.slices_Index_int64.l5 (R := GV) k G r (fzl true 1 ci xs) (.int .i64 n) v4 (.int .i64 xs.length) (.int .i64 j) h = some (.int .i64 (if n ∈ xs.drop j then ((j + (xs.drop j).idxOf n : Nat) : Int) else -1)) := by
    intro d
    induction d with
    | zero =>
      intro j r hj hr k G h v4 hG hG'
      obtain ⟨r, rfl⟩ : ∃ m, r = m + 1 := ⟨r - 1, by omega⟩
      have : ¬ ((j : Int) < xs.length) := by omega
      rw [List.drop_of_length_le (by omega)]
      simp [S.slices_Index_int64.l5, this, hG]
    | succ d ih =>
      intro j r hj hr k G h v4 hG hG'
      obtain ⟨r, rfl⟩ : ∃ m, r = m + 1 := ⟨r - 1, by omega⟩
      have h1 : (j : Int) < xs.length := by omega
      have hj' : j < xs.length := by omega
      have w := wrap_succ (n := j) (by omega)
      have e : xs.drop j = xs[j] :: xs.drop (j + 1) := List.drop_eq_getElem_cons hj'
      have ih' := ih (j + 1) r (by omega) (by omega) k G h v4 hG hG'
      rw [show (((j + 1 : Nat)) : Int) = (j : Int) + 1 by omega] at ih'
      by_cases c : n = xs[j]
      · have hmem : n ∈ xs.drop j := by rw [e, c]; exact List.mem_cons_self
        have hidx : (xs.drop j).idxOf n = 0 := by rw [e, c]; exact List.idxOf_cons_self
        rw [if_pos hmem, hidx]
        simp [S.slices_Index_int64.l5, h1, get_of hj', w, ← c, hG']
      · have c' : ¬ (xs[j] = n) := fun h => c h.symm
        have hmem : (n ∈ xs.drop j) ↔ n ∈ xs.drop (j + 1) := by rw [e, List.mem_cons]; exact ⟨fun h => h.resolve_left c, .inr⟩
        have hidx : (xs.drop j).idxOf n = (xs.drop (j + 1)).idxOf n + 1 := by rw [e, List.idxOf_cons, beq_false_of_ne c']; rfl
        simp only [hmem, hidx]
        simp only [S.slices_Index_int64.l5]
        simp [h1, get_of hj', w, c, ih']
        split
        · omega
        · rfl
  rw [show (0 : Int) = ((0 : Nat) : Int) from rfl, key xs.length 0 (xs.length + 1) (by omega) (by omega) _ _ _ _ (fun v h => by simp) (fun v h => by simp)]
  simp

theorem slices_Contains_int64_spec (xs : List Int) (n : Int) (hm : xs.length ≤ maxLen) : NN fn.slices_Contains_int64 [fzl true 1 ci xs, .int .i64 n] = some (.bool (decide (n ∈ xs))) := by
  apply S.slices_Contains_int64.gives (k := 0)
  by_cases h : n ∈ xs
  · have : (0 : Int) ≤ (xs.idxOf n : Int) := by omega
    simp [S.slices_Contains_int64.run, slices_Index_int64_spec xs n hm, h, this]
  · simp [S.slices_Contains_int64.run, slices_Index_int64_spec xs n hm, h]

def FreP (top : Int) (xs : List Int) (n : Int) : Prop := (0 ≤ n ∧ n ≤ 1099511627776) ∧ top - 32 < n ∧ n ∉ xs

open Classical in
theorem spec_l15Fresh_spec (top : Int) (xs : List Int) (n : Int) (hm : xs.length ≤ maxLen) (h : WinP top xs) : NN fn.spec_l15Fresh [win true top xs, .int .i64 n] = some (.bool (decide (FreP top xs n))) := by
  have ht : -1 ≤ top ∧ top ≤ 1099511627776 := by
    unfold WinP at h
    split at h
    · omega
    · obtain ⟨a, b, _⟩ := h; omega
  have w2 : IntKind.i64.wrap (top - 32) = top - 32 := by rw [wrap_id] <;> omega
  apply S.spec_l15Fresh.gives (k := xs.length + 1)
  let T : Prop := (0 ≤ n ∧ n ≤ 1099511627776) ∧ top - 32 < n
  simp [S.spec_l15Fresh.run]
  refine (loop_all (f := fun r j => S.spec_l15Fresh.l7 _ _ r _ _ _ (.int .i64 (j : Int)) _) (A := some (GV.bool (decide T))) (B := some (GV.bool false)) (n := xs.length) (P := fun j => xs[j]? ≠ some n) (fun j r hj => ?_) (fun r => ?_) (xs.length + 1) 0 (by omega) (by omega)).trans ?_
  · have g1 : (j : Int) < xs.length := by omega
    have w := wrap_succ (n := j) (by omega)
    by_cases c : xs[j] = n
    · simp [S.spec_l15Fresh.l7, g1, get_of hj, w, c]
    · simp [S.spec_l15Fresh.l7, g1, get_of hj, w, c]
  · by_cases c1 : 0 ≤ n ∧ n ≤ 1099511627776
    · by_cases c2 : top - 32 < n
      · have hT : T := ⟨c1, c2⟩
        simp [S.spec_l15Fresh.l7, spec_l1In_spec, c1, c2, w2, hT]
      · have hT : ¬ T := fun h => c2 h.2
        simp [S.spec_l15Fresh.l7, spec_l1In_spec, c1, c2, w2, hT]
    · have hb : (decide (0 ≤ n) && decide (n ≤ 1099511627776)) = false := by rw [← Bool.decide_and]; exact decide_eq_false c1
      have hT : ¬ T := fun h => c1 h.1
      simp [S.spec_l15Fresh.l7, spec_l1In_spec, hb, hT]
  · have key : FreP top xs n ↔ T ∧ ∀ i, 0 ≤ i → i < xs.length → xs[i]? ≠ some n := by
      unfold FreP
      constructor
      · rintro ⟨a, b, c⟩
        exact ⟨⟨a, b⟩, fun i _ _ h => c (List.mem_of_getElem? h)⟩
      · rintro ⟨⟨a, b⟩, c⟩
        refine ⟨a, b, fun h => ?_⟩
        obtain ⟨i, hi, he⟩ := List.getElem_of_mem h
        exact c i (by omega) hi (by rw [get_of hi, he])
    by_cases hx : ∀ i, 0 ≤ i → i < xs.length → xs[i]? ≠ some n
    · rw [if_pos hx]
      have : FreP top xs n ↔ T := key.trans ⟨And.left, fun h => ⟨h, hx⟩⟩
      simp only [this]
    · rw [if_neg hx, decide_eq_false (fun h => hx (key.1 h).2)]

open Classical in
theorem spec_Fresh_spec (top : Int) (xs : List Int) (n : Int) (hm : xs.length ≤ maxLen) : NN fn.spec_Fresh [win true top xs, .int .i64 n] = some (.bool (decide (WinP top xs ∧ FreP top xs n))) := by
  apply S.spec_Fresh.gives (k := 0)
  by_cases h : WinP top xs
  · simp [S.spec_Fresh.run, spec_WindowOk_spec top xs hm, spec_l15Fresh_spec top xs n hm h, h]
  · simp [S.spec_Fresh.run, spec_WindowOk_spec top xs hm, h]
open Classical in
theorem impl_Fresh_spec (top : Int) (xs : List Int) (n : Int) (hm : xs.length ≤ maxLen) (ht : -9223372036854775808 ≤ top) (ht' : top ≤ 9223372036854775807) : NN fn.impl_Fresh [win true top xs, .int .i64 n] = some (.bool (decide (WinP top xs ∧ FreP top xs n))) := by
  apply S.impl_Fresh.gives (k := 0)
  by_cases h : WinP top xs
  · have ht2 : -1 ≤ top ∧ top ≤ 1099511627776 := by
      unfold WinP at h
      split at h
      · omega
      · obtain ⟨a, b, _⟩ := h; omega
    have w2 : IntKind.i64.wrap (top - 32) = top - 32 := by rw [wrap_id] <;> omega
    by_cases c1 : 0 ≤ n ∧ n ≤ 1099511627776
    · by_cases c2 : top - 32 < n
      · have : FreP top xs n ↔ n ∉ xs := ⟨fun h => h.2.2, fun h => ⟨c1, c2, h⟩⟩
        simp [S.impl_Fresh.run, impl_WindowOk_spec top xs hm ht ht', impl_in_spec, slices_Contains_int64_spec xs n hm, h, c1, c2, w2, this]
      · have : ¬ FreP top xs n := fun h => c2 h.2.1
        simp [S.impl_Fresh.run, impl_WindowOk_spec top xs hm ht ht', impl_in_spec, slices_Contains_int64_spec xs n hm, h, c1, c2, w2, this]
    · have hb : (decide (0 ≤ n) && decide (n ≤ 1099511627776)) = false := by rw [← Bool.decide_and]; exact decide_eq_false c1
      have : ¬ FreP top xs n := fun h => c1 h.1
      simp [S.impl_Fresh.run, impl_WindowOk_spec top xs hm ht ht', impl_in_spec, h, hb, this]
  · simp [S.impl_Fresh.run, impl_WindowOk_spec top xs hm ht ht', h]

theorem FnExactFresh_row (a0 : (Int × List (Int))) (i0 : (Lit.int .i64 a0.1).wf = true ∧ inSl (fun x1 : Int => (Lit.int .i64 x1).wf = true) a0.2) (a1 : Int) (i1 : (Lit.int .i64 a1).wf = true) : NN fn.laws_FnExactFresh [(.agg [GV.int .i64 a0.1, fzl true 1 (fun x1 : Int => [GV.int .i64 x1]) a0.2]), (GV.int .i64 a1)] = some (.bool true) := by
  obtain ⟨top, xs⟩ := a0
  obtain ⟨i1', hm, _⟩ := i0
  obtain ⟨ht, ht'⟩ := wf_i64 i1'
  simp only at hm ht ht' ⊢
  apply S.laws_FnExactFresh.gives (k := 0)
  by_cases h : (1048576 : Int) < xs.length
  · have : (if (1048576 : Int) - xs.length < 0 then (-1 : Int) else 1048576 - xs.length) = -1 := by rw [if_pos (by omega)]
    simp [S.laws_FnExactFresh.run, laws_szWindow_spec top xs 1048576 hm (by omega) (by omega), this]
  · have h1 : (if (1048576 : Int) - xs.length < 0 then (-1 : Int) else 1048576 - xs.length) = 1048576 - xs.length := by rw [if_neg (by omega)]
    have h2 : ¬ ((1048576 : Int) - xs.length < 0) := by omega
    simp [S.laws_FnExactFresh.run, laws_szWindow_spec top xs 1048576 hm (by omega) (by omega), h, h1, h2, laws_toWindow_spec top xs (by omega), spec_Fresh_spec top xs a1 hm, impl_Fresh_spec top xs a1 hm ht ht', laws_eqWindow_spec top top xs xs hm]
end Go.Proofs.Ytleeifecdjolhaa.G
