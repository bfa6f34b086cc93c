/- Chains: ChainOk. -/
import Derived.Test.YtopmnigfklgnkaaTChain
namespace Go.Proofs.Ytopmnigfklgnkaa.G
open Go.RowKit
set_option linter.unusedVariables false
set_option linter.unusedSimpArgs false

open Classical in
/-- A loop over places j to n that leaves by B at the first place that is not right, else by A; something moves along. -/
theorem loop_allS {R T : Type} {P : Nat → Prop} {n : Nat} {f : Nat → Nat → T → R} {A B : R} (h1 : ∀ j r s, j < n → if P j then ∃ s', f (r + 1) j s = f r (j + 1) s' else f (r + 1) j s = B) (h2 : ∀ r s, f (r + 1) n s = A) :
    ∀ r j s, n - j < r → j ≤ n → f r j s = if (∀ i, j ≤ i → i < n → P i) then A else B := by
  intro r
  induction r with
  | zero => intro j s h; omega
  | succ r ih =>
    intro j s hr hj
    rcases Nat.lt_or_ge j n with h | h
    · have h3 := h1 j r s h
      by_cases hp : P j
      · rw [if_pos hp] at h3
        obtain ⟨s', h3⟩ := h3
        rw [h3, ih (j + 1) s' (by omega) (by omega)]
        have : (∀ i, j + 1 ≤ i → i < n → P i) ↔ (∀ i, j ≤ i → i < n → P i) := by
          constructor
          · intro h i hi hin
            rcases Nat.eq_or_lt_of_le hi with rfl | hi
            · exact hp
            · exact h i hi hin
          · intro h i hi; exact h i (by omega)
        simp only [this]
      · rw [if_neg hp] at h3
        rw [h3, if_neg (fun h' => hp (h' j (Nat.le_refl j) h))]
    · have : j = n := by omega
      subst this
      rw [h2 r, if_pos (fun i h1 h2 => by omega)]
abbrev CServers := List (List ByteArray × Int)
/-- Server i and the next one. -/
def StepP (xs : CServers) (ds : List (List ByteArray)) (us : List (List Int)) (i : Nat) : Prop :=
  (xs[i]?.getD ([], 0)).2 ≤ (xs[i + 1]?.getD ([], 0)).2 ∧ (xs[i]?.getD ([], 0)).1 = (xs[i + 1]?.getD ([], 0)).1 ++ ds[i]?.getD [] ∧
    (UpP (us[i]?.getD []) ∧ ∀ n ∈ us[i]?.getD [], (xs[i]?.getD ([], 0)).2 ≤ n ∧ n ≤ (xs[i + 1]?.getD ([], 0)).2)
/-- A right chain. -/
def ChainP (xs : CServers) (ds : List (List ByteArray)) (us : List (List Int)) : Prop :=
  (1 ≤ xs.length ∧ xs.length ≤ 5) ∧ ds.length + 1 = xs.length ∧ us.length + 1 = xs.length ∧ (∀ s ∈ xs, ServerP s.1 s.2) ∧
    (∀ i, 0 ≤ i → i < xs.length - 1 → StepP xs ds us i) ∧ (xs[xs.length - 1]?.getD ([], 0)).2 = (xs[xs.length - 1]?.getD ([], 0)).1.length

theorem bor_two {d : Nat} {t : Heap} {a b : List ByteArray} {c c' c'' : List GV} : bor (d + 3) (c :: (t ++ [c', c'', [fzl true 1 cs a, fzl true 1 cs b]])) (.sl (t.length + 3) 0 2 2 1) = some (fzl true 1 (mStringS true) [a, b], [t.length + 3]) := by
  have e : (c :: (t ++ [c', c'', [fzl true 1 cs a, fzl true 1 cs b]]))[t.length + 3]? = some [fzl true 1 cs a, fzl true 1 cs b] := by
    rw [List.getElem?_cons_succ, get_app]; rfl
  unfold bor
  simp [cellsAt_if, e]
  rfl
abbrev ChainCells (xs : CServers) (ds : List (List ByteArray)) (us : List (List Int)) : List GV := [fzl true 2 (mServer true) xs, fzl true 1 (mStringS true) ds, fzl true 1 (mInt64S true) us]
open Classical in
theorem impl_ChainOk_step (xs : CServers) (ds : List (List ByteArray)) (us : List (List Int)) (hm : okChain (xs, ds, us)) (h1 : 1 ≤ xs.length ∧ xs.length ≤ 5) (h2 : ds.length + 1 = xs.length) (h3 : us.length + 1 = xs.length) (h4' : ∀ s ∈ xs, ServerP s.1 s.2)
    (j r : Nat) (t : Heap) (hj : j < xs.length - 1) :
    if StepP xs ds us j then ∃ t', ∀ {R : Type} (k : Nat) (G : GX → GV → GV → GV → Heap → Option R), S.impl_ChainOk.l7 k G (r + 1) (.ptr 0 0 3) (.bool false) (.int .i64 (xs.length : Int)) (.int .i64 ((xs.length : Int) - 1)) (.int .i64 (j : Int)) (ChainCells xs ds us :: t) = S.impl_ChainOk.l7 k G r (.ptr 0 0 3) (.bool false) (.int .i64 (xs.length : Int)) (.int .i64 ((xs.length : Int) - 1)) (.int .i64 ((j + 1 : Nat) : Int)) (ChainCells xs ds us :: t')
    else ∃ t', ∀ {R : Type} (k : Nat) (G : GX → GV → GV → GV → Heap → Option R), S.impl_ChainOk.l7 k G (r + 1) (.ptr 0 0 3) (.bool false) (.int .i64 (xs.length : Int)) (.int .i64 ((xs.length : Int) - 1)) (.int .i64 (j : Int)) (ChainCells xs ds us :: t) = G .ret (.ptr 0 0 3) (.bool false) (.int .i64 (xs.length : Int)) (ChainCells xs ds us :: t') := by
  obtain ⟨⟨hx, hx'⟩, ⟨hd, hd'⟩, ⟨hu, hu'⟩⟩ := hm
  simp only at hx hx' hd hd' hu hu'
  have g1 : (j : Int) < (xs.length : Int) - 1 := by omega
  have j0 : j < xs.length := by omega
  have j1 : j + 1 < xs.length := by omega
  have jd : j < ds.length := by omega
  have ju : j < us.length := by omega
  have w2 := wrap_succ (n := j) (by simp only [maxLen]; omega)
  have g2 : (j : Int) < (xs.length : Int) := by omega
  have g3 : (0 : Int) ≤ (j : Int) + 1 ∧ (j : Int) + 1 < (xs.length : Int) := by omega
  have g4 : (j : Int) < (ds.length : Int) := by omega
  have g5 : (j : Int) < (us.length : Int) := by omega
  have t1 : ((j : Int) + 1).toNat = j + 1 := by omega
  have hP : StepP xs ds us j ↔ xs[j].2 ≤ xs[j + 1].2 ∧ xs[j].1 = xs[j + 1].1 ++ ds[j] ∧ (UpP us[j] ∧ ∀ n ∈ us[j], xs[j].2 ≤ n ∧ n ≤ xs[j + 1].2) := by
    unfold StepP
    rw [get_of j0, get_of j1, get_of jd, get_of ju]
    exact Iff.rfl
  have b0 : xs[j].1.length ≤ 60 := (h4' _ (List.getElem_mem j0)).1
  have b1 : xs[j + 1].1.length ≤ 60 := (h4' _ (List.getElem_mem j1)).1
  have bd : ds[j].length ≤ 1048576 := (hd' _ (List.getElem_mem jd)).1
  have bu : us[j].length ≤ 1048576 := (hu' _ (List.getElem_mem ju))
  have sc := slices_Concat_string_spec [xs[j + 1].1, ds[j]] (by simp) (by simp; omega)
  have se := slices_Equal_string_spec xs[j].1 (xs[j + 1].1 ++ ds[j]) (by omega)
  have su := impl_areUp_spec us[j] xs[j].2 xs[j + 1].2 bu
  simp only [List.flatten_cons, List.flatten_nil, List.append_nil] at sc
  by_cases c1 : xs[j].2 ≤ xs[j + 1].2
  case neg =>
    rw [if_neg (fun h => c1 (hP.1 h).1)]
    have c1' : xs[j + 1].2 < xs[j].2 := by omega
    refine ⟨t ++ [[fzl true 1 cs xs[j].1, .int .i64 xs[j].2], [fzl true 1 cs xs[j + 1].1, .int .i64 xs[j + 1].2]], fun k G => ?_⟩
    simp only [S.impl_ChainOk.l7]
    simp [g1, g2, g3.1, g3.2, g4, g5, t1, w2, get_of j0, get_of j1, get_of jd, get_of ju, get_app, get_app0, set_app, set_app0, c1', chk, meets, gfill, zeros, kbs, bor_two, sc, se, su]
  have c1' : ¬ (xs[j + 1].2 < xs[j].2) := by omega
  by_cases c2 : xs[j].1 = xs[j + 1].1 ++ ds[j]
  case neg =>
    rw [if_neg (fun h => c2 (hP.1 h).2.1)]
    rw [decide_eq_false c2] at se
    refine ⟨t ++ [[fzl true 1 cs xs[j].1, .int .i64 xs[j].2], [fzl true 1 cs xs[j + 1].1, .int .i64 xs[j + 1].2], [fzl true 1 cs xs[j + 1].1, fzl true 1 cs ds[j]]], fun k G => ?_⟩
    simp only [S.impl_ChainOk.l7]
    simp [g1, g2, g3.1, g3.2, g4, g5, t1, w2, get_of j0, get_of j1, get_of jd, get_of ju, get_app, get_app0, set_app, set_app0, c1', chk, meets, gfill, zeros, kbs, bor_two, sc, se, su]
  rw [decide_eq_true c2] at se
  by_cases c3 : UpP us[j] ∧ ∀ n ∈ us[j], xs[j].2 ≤ n ∧ n ≤ xs[j + 1].2
  case neg =>
    rw [if_neg (fun h => c3 (hP.1 h).2.2)]
    rw [decide_eq_false c3] at su
    refine ⟨t ++ [[fzl true 1 cs xs[j].1, .int .i64 xs[j].2], [fzl true 1 cs xs[j + 1].1, .int .i64 xs[j + 1].2], [fzl true 1 cs xs[j + 1].1, fzl true 1 cs ds[j]]], fun k G => ?_⟩
    simp only [S.impl_ChainOk.l7]
    simp [g1, g2, g3.1, g3.2, g4, g5, t1, w2, get_of j0, get_of j1, get_of jd, get_of ju, get_app, get_app0, set_app, set_app0, c1', chk, meets, gfill, zeros, kbs, bor_two, sc, se, su]
  rw [decide_eq_true c3] at su
  rw [if_pos (hP.2 ⟨c1, c2, c3⟩)]
  refine ⟨t ++ [[fzl true 1 cs xs[j].1, .int .i64 xs[j].2], [fzl true 1 cs xs[j + 1].1, .int .i64 xs[j + 1].2], [fzl true 1 cs xs[j + 1].1, fzl true 1 cs ds[j]]], fun k G => ?_⟩
  simp only [S.impl_ChainOk.l7]
  simp [g1, g2, g3.1, g3.2, g4, g5, t1, w2, get_of j0, get_of j1, get_of jd, get_of ju, get_app, get_app0, set_app, set_app0, c1', chk, meets, gfill, zeros, kbs, bor_two, sc, se, su]
open Classical in
theorem impl_ChainOk_spec (xs : CServers) (ds : List (List ByteArray)) (us : List (List Int)) (hm : okChain (xs, ds, us)) :
    NN fn.impl_ChainOk [.agg [fzl true 2 (mServer true) xs, fzl true 1 (mStringS true) ds, fzl true 1 (mInt64S true) us]] = some (.bool (decide (ChainP xs ds us))) := by
  have hm' := hm
  obtain ⟨⟨hx, hx'⟩, ⟨hd, hd'⟩, ⟨hu, hu'⟩⟩ := hm'
  simp only at hx hx' hd hd' hu hu'
  apply S.impl_ChainOk.gives (k := xs.length + 1)
  have hc := slices_ContainsFunc_impl_Server_spec xs (.fn fn.impl_ChainOk_1 []) (.fn fn.impl_ChainOk_1 []) (fun a => !decide (ServerP a.1 a.2)) hx rfl (fun a ha h K => by
    rw [kval_ChainOk_1]
    simp [impl_ChainOk_1_spec a.1 a.2 (hx' a ha).1])
  have w1 : IntKind.i64.wrap ((xs.length : Int) - 1) = (xs.length : Int) - 1 := by rw [wrap_id] <;> omega
  by_cases h1 : 1 ≤ xs.length ∧ xs.length ≤ 5
  case neg =>
    rw [decide_eq_false (fun h => h1 h.1)]
    have i1 := impl_in_spec xs.length 1 5
    rw [decide_eq_false (by omega)] at i1
    simp [S.impl_ChainOk.run, i1]
  have i1 := impl_in_spec xs.length 1 5
  rw [decide_eq_true (by omega)] at i1
  by_cases h2 : ds.length + 1 = xs.length
  case neg =>
    rw [decide_eq_false (fun h => h2 h.2.1)]
    have : ¬ ((ds.length : Int) = (xs.length : Int) - 1) := by omega
    simp [S.impl_ChainOk.run, i1, w1, this]
  have h2' : (ds.length : Int) = (xs.length : Int) - 1 := by omega
  by_cases h3 : us.length + 1 = xs.length
  case neg =>
    rw [decide_eq_false (fun h => h3 h.2.2.1)]
    have : ¬ ((us.length : Int) = (xs.length : Int) - 1) := by omega
    simp [S.impl_ChainOk.run, i1, w1, h2', this]
  have h3' : (us.length : Int) = (xs.length : Int) - 1 := by omega
  cases h4 : (xs.any fun a => !decide (ServerP a.1 a.2)) with
  | true =>
    rw [h4] at hc
    rw [decide_eq_false (fun h => by
      obtain ⟨s, hs, hp⟩ := List.any_eq_true.1 h4
      have := h.2.2.2.1 s hs
      simp [this] at hp)]
    simp [S.impl_ChainOk.run, i1, w1, h2', h3', hc]
  | false =>
    rw [h4] at hc
    have h4' : ∀ s ∈ xs, ServerP s.1 s.2 := fun s hs => by
      have := List.any_eq_false.1 h4 s hs
      simpa using this
    simp [S.impl_ChainOk.run, i1, w1, h2', h3', hc]
    refine (loop_allS (f := fun r j (t : Heap) => S.impl_ChainOk.l7 _ _ r (.ptr 0 0 3) (.bool false) (.int .i64 (xs.length : Int)) (.int .i64 ((xs.length : Int) - 1)) (.int .i64 (j : Int)) ([fzl true 2 (mServer true) xs, fzl true 1 (mStringS true) ds, fzl true 1 (mInt64S true) us] :: t)) (A := some (GV.bool (decide ((xs[xs.length - 1]?.getD ([], 0)).2 = (xs[xs.length - 1]?.getD ([], 0)).1.length)))) (B := some (GV.bool false)) (n := xs.length - 1) (P := fun j => StepP xs ds us j) (fun j r t hj => ?_) (fun r t => ?_) (xs.length + 1) 0 [] (by omega) (by omega)).trans ?_
    · have hs := impl_ChainOk_step xs ds us hm h1 h2 h3 h4' j r t hj
      by_cases hp : StepP xs ds us j
      · rw [if_pos hp] at hs ⊢
        obtain ⟨t', hs⟩ := hs
        exact ⟨t', hs _ _⟩
      · rw [if_neg hp] at hs ⊢
        obtain ⟨t', hs⟩ := hs
        rw [hs]
        simp
    · have g1 : ¬ (((xs.length - 1 : Nat) : Int) < (xs.length : Int) - 1) := by omega
      obtain ⟨l, hl⟩ : ∃ l, xs.length = l + 1 := ⟨xs.length - 1, by omega⟩
      have q1 : (xs.length : Int) - 1 = (l : Int) := by omega
      have q2 : xs.length - 1 = l := by omega
      have g2 : (l : Int) < (xs.length : Int) := by omega
      have j0 : l < xs.length := by omega
      have w2 : IntKind.i64.wrap (l : Int) = (l : Int) := by rw [wrap_id] <;> omega
      rw [q1] at g1 ⊢
      rw [q2] at g1 ⊢
      simp only [S.impl_ChainOk.l7]
      simp [g1, g2, q1, w2, get_of j0, get_app, get_app0, set_app, set_app0]
    · have key : ChainP xs ds us ↔ (∀ i, 0 ≤ i → i < xs.length - 1 → StepP xs ds us i) ∧ (xs[xs.length - 1]?.getD ([], 0)).2 = (xs[xs.length - 1]?.getD ([], 0)).1.length := by
        unfold ChainP
        exact ⟨fun h => h.2.2.2.2, fun h => ⟨h1, h2, h3, h4', h⟩⟩
      by_cases hs : ∀ i, 0 ≤ i → i < xs.length - 1 → StepP xs ds us i
      · rw [if_pos hs]
        congr 2
        rw [Bool.eq_iff_iff, decide_eq_true_eq, decide_eq_true_eq, key]
        exact ⟨fun h => ⟨hs, h⟩, fun h => h.2⟩
      · rw [if_neg hs, decide_eq_false (fun h => hs (key.1 h).1)]
end Go.Proofs.Ytopmnigfklgnkaa.G
