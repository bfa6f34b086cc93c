/- A new screen, a new session. -/
import Derived.Test.YtolhjndfplfjpaaTM
import Derived.Test.YtolhjndfplfjpaaYSess
import Derived.Test.YtolhjndfplfjpaaSA
namespace Go.Proofs.Ytolhjndfplfjpaa.G
open Go.RowKit
set_option linter.unusedVariables false
set_option linter.unusedSimpArgs false

/-- One times a small number. -/
theorem math_bits_Mul64_one : ∀ n : Nat, n ≤ 60 → NN fn.math_bits_Mul64 [.int .u64 1, .int .u64 (n : Int)] = some (.tup [.int .u64 0, .int .u64 (n : Int)])
  | 0, _ => S.math_bits_Mul64.gives (k := 0) (by kernel_rfl)
  | 1, _ => S.math_bits_Mul64.gives (k := 0) (by kernel_rfl)
  | 2, _ => S.math_bits_Mul64.gives (k := 0) (by kernel_rfl)
  | 3, _ => S.math_bits_Mul64.gives (k := 0) (by kernel_rfl)
  | 4, _ => S.math_bits_Mul64.gives (k := 0) (by kernel_rfl)
  | 5, _ => S.math_bits_Mul64.gives (k := 0) (by kernel_rfl)
  | 6, _ => S.math_bits_Mul64.gives (k := 0) (by kernel_rfl)
  | 7, _ => S.math_bits_Mul64.gives (k := 0) (by kernel_rfl)
  | 8, _ => S.math_bits_Mul64.gives (k := 0) (by kernel_rfl)
  | 9, _ => S.math_bits_Mul64.gives (k := 0) (by kernel_rfl)
  | 10, _ => S.math_bits_Mul64.gives (k := 0) (by kernel_rfl)
  | 11, _ => S.math_bits_Mul64.gives (k := 0) (by kernel_rfl)
  | 12, _ => S.math_bits_Mul64.gives (k := 0) (by kernel_rfl)
  | 13, _ => S.math_bits_Mul64.gives (k := 0) (by kernel_rfl)
  | 14, _ => S.math_bits_Mul64.gives (k := 0) (by kernel_rfl)
  | 15, _ => S.math_bits_Mul64.gives (k := 0) (by kernel_rfl)
  | 16, _ => S.math_bits_Mul64.gives (k := 0) (by kernel_rfl)
  | 17, _ => S.math_bits_Mul64.gives (k := 0) (by kernel_rfl)
  | 18, _ => S.math_bits_Mul64.gives (k := 0) (by kernel_rfl)
  | 19, _ => S.math_bits_Mul64.gives (k := 0) (by kernel_rfl)
  | 20, _ => S.math_bits_Mul64.gives (k := 0) (by kernel_rfl)
  | 21, _ => S.math_bits_Mul64.gives (k := 0) (by kernel_rfl)
  | 22, _ => S.math_bits_Mul64.gives (k := 0) (by kernel_rfl)
  | 23, _ => S.math_bits_Mul64.gives (k := 0) (by kernel_rfl)
  | 24, _ => S.math_bits_Mul64.gives (k := 0) (by kernel_rfl)
  | 25, _ => S.math_bits_Mul64.gives (k := 0) (by kernel_rfl)
  | 26, _ => S.math_bits_Mul64.gives (k := 0) (by kernel_rfl)
  | 27, _ => S.math_bits_Mul64.gives (k := 0) (by kernel_rfl)
  | 28, _ => S.math_bits_Mul64.gives (k := 0) (by kernel_rfl)
  | 29, _ => S.math_bits_Mul64.gives (k := 0) (by kernel_rfl)
  | 30, _ => S.math_bits_Mul64.gives (k := 0) (by kernel_rfl)
  | 31, _ => S.math_bits_Mul64.gives (k := 0) (by kernel_rfl)
  | 32, _ => S.math_bits_Mul64.gives (k := 0) (by kernel_rfl)
  | 33, _ => S.math_bits_Mul64.gives (k := 0) (by kernel_rfl)
  | 34, _ => S.math_bits_Mul64.gives (k := 0) (by kernel_rfl)
  | 35, _ => S.math_bits_Mul64.gives (k := 0) (by kernel_rfl)
  | 36, _ => S.math_bits_Mul64.gives (k := 0) (by kernel_rfl)
  | 37, _ => S.math_bits_Mul64.gives (k := 0) (by kernel_rfl)
  | 38, _ => S.math_bits_Mul64.gives (k := 0) (by kernel_rfl)
  | 39, _ => S.math_bits_Mul64.gives (k := 0) (by kernel_rfl)
  | 40, _ => S.math_bits_Mul64.gives (k := 0) (by kernel_rfl)
  | 41, _ => S.math_bits_Mul64.gives (k := 0) (by kernel_rfl)
  | 42, _ => S.math_bits_Mul64.gives (k := 0) (by kernel_rfl)
  | 43, _ => S.math_bits_Mul64.gives (k := 0) (by kernel_rfl)
  | 44, _ => S.math_bits_Mul64.gives (k := 0) (by kernel_rfl)
  | 45, _ => S.math_bits_Mul64.gives (k := 0) (by kernel_rfl)
  | 46, _ => S.math_bits_Mul64.gives (k := 0) (by kernel_rfl)
  | 47, _ => S.math_bits_Mul64.gives (k := 0) (by kernel_rfl)
  | 48, _ => S.math_bits_Mul64.gives (k := 0) (by kernel_rfl)
  | 49, _ => S.math_bits_Mul64.gives (k := 0) (by kernel_rfl)
  | 50, _ => S.math_bits_Mul64.gives (k := 0) (by kernel_rfl)
  | 51, _ => S.math_bits_Mul64.gives (k := 0) (by kernel_rfl)
  | 52, _ => S.math_bits_Mul64.gives (k := 0) (by kernel_rfl)
  | 53, _ => S.math_bits_Mul64.gives (k := 0) (by kernel_rfl)
  | 54, _ => S.math_bits_Mul64.gives (k := 0) (by kernel_rfl)
  | 55, _ => S.math_bits_Mul64.gives (k := 0) (by kernel_rfl)
  | 56, _ => S.math_bits_Mul64.gives (k := 0) (by kernel_rfl)
  | 57, _ => S.math_bits_Mul64.gives (k := 0) (by kernel_rfl)
  | 58, _ => S.math_bits_Mul64.gives (k := 0) (by kernel_rfl)
  | 59, _ => S.math_bits_Mul64.gives (k := 0) (by kernel_rfl)
  | 60, _ => S.math_bits_Mul64.gives (k := 0) (by kernel_rfl)
  | n + 61, h => absurd h (by omega)
theorem math_bits_Mul_one (n : Nat) (hn : n ≤ 60) : NN fn.math_bits_Mul [.int .u64 1, .int .u64 (n : Int)] = some (.tup [.int .u64 0, .int .u64 (n : Int)]) := by
  apply S.math_bits_Mul.gives (k := 0)
  simp [S.math_bits_Mul.run, math_bits_Mul64_one n hn]
  exact finN_of (frz_tup (.cons frz_int (.cons frz_int .nil)))
abbrev CellT := Int × (Int × Int × Bool × Bool × Bool) × Int
/-- A blank. -/
def blankT : CellT := (32, (0, 0, false, false, false), 0)
abbrev styleG : GV := .agg [.int .i64 0, .int .i64 0, .bool false, .bool false, .bool false]
theorem impl_blank_spec : NN fn.impl_blank [styleG] = some (.agg (mCell true blankT)) := by
  apply S.impl_blank.gives (k := 0)
  simp [S.impl_blank.run, gfill]
  exact finN_of (frz_agg (.cons frz_int (.cons frz_int (.cons frz_int (.cons frz_bool (.cons frz_bool (.cons frz_bool (.cons frz_int .nil))))))))
theorem spec_l4Blank_spec : NN fn.spec_l4Blank [styleG] = some (.agg (mCell true blankT)) := by
  apply S.spec_l4Blank.gives (k := 0)
  simp [S.spec_l4Blank.run, gfill]
  exact finN_of (frz_agg (.cons frz_int (.cons frz_int (.cons frz_int (.cons frz_bool (.cons frz_bool (.cons frz_bool (.cons frz_int .nil))))))))
abbrev zCell0 : List GV := [.int .i64 0, .int .i64 0, .int .i64 0, .bool false, .bool false, .bool false, .int .i64 0]
theorem fill_more {α : Type} {mk : α → List GV} {z : List GV} {es : Nat} (hm : ∀ a, (mk a).length = es) (hz : z.length = es) (x : α) (n m k : Nat) (h : m + k ≤ n) : splice (fill mk z (List.replicate n x) m) (m * es) ((List.replicate k x).flatMap mk) = fill mk z (List.replicate n x) (m + k) := by
  have e1 : (List.replicate n x).take m = List.replicate m x := by rw [List.take_replicate]; congr 1; omega
  have e2 : (List.replicate n x).take (m + k) = List.replicate m x ++ List.replicate k x := by rw [List.take_replicate, List.replicate_append_replicate]; congr 1; omega
  have l1 : ((List.replicate m x).flatMap mk).length = m * es := by rw [len_flat hm, List.length_replicate]
  have l2 : ((List.replicate k x).flatMap mk).length = k * es := by rw [len_flat hm, List.length_replicate]
  unfold fill splice
  rw [e1, e2, List.length_replicate, List.take_append_of_le_length (by omega), List.take_of_length_le (by omega), l2, ← l1, ← List.drop_drop, List.drop_left, zeros_drop hz _ _ (by omega), List.flatMap_append]
  congr 2
  omega
theorem fill_head {α : Type} {mk : α → List GV} {z : List GV} {es : Nat} (hm : ∀ a, (mk a).length = es) (x : α) (n m : Nat) (h : m ≤ n) : (fill mk z (List.replicate n x) m).take (m * es) = (List.replicate m x).flatMap mk := by
  have e1 : (List.replicate n x).take m = List.replicate m x := by rw [List.take_replicate]; congr 1; omega
  have l1 : ((List.replicate m x).flatMap mk).length = m * es := by rw [len_flat hm, List.length_replicate]
  unfold fill
  rw [e1, List.take_append_of_le_length (by omega), List.take_of_length_le (by omega)]
theorem take_rep {α : Type} {mk : α → List GV} {es : Nat} (hm : ∀ a, (mk a).length = es) (x : α) (m k : Nat) (h : k ≤ m) : ((List.replicate m x).flatMap mk).take (k * es) = (List.replicate k x).flatMap mk := by
  have e : List.replicate m x = List.replicate k x ++ List.replicate (m - k) x := by rw [List.replicate_append_replicate]; congr 1; omega
  have l1 : ((List.replicate k x).flatMap mk).length = k * es := by rw [len_flat hm, List.length_replicate]
  rw [e, List.flatMap_append, List.take_append_of_le_length (by omega), List.take_of_length_le (by omega)]
theorem cells_all (k : Nat) : ((List.replicate k blankT).flatMap (mCell true)).all GV.isCell = true := by
  rw [List.all_eq_true]
  intro g hg
  rw [List.mem_flatMap] at hg
  obtain ⟨a, _, hg⟩ := hg
  simp only [mCell, List.mem_cons, List.not_mem_nil, or_false] at hg
  rcases hg with h | h | h | h | h | h | h <;> (subst h; rfl)
theorem repeat_loop {Q : Type} (n : Nat) (hn : n ≤ 60) : ∀ r m, n - m < r → 1 ≤ m → m ≤ n → ∀ (k : Nat) (v4 : GV) (G : GX → GV → GV → Heap → Option Q), S.slices_Repeat_impl_Cell.l9 k G r v4 (.sl 0 0 n n 7) (.int .i64 (m : Int)) [fill (mCell true) zCell0 (List.replicate n blankT) m] = G (.ext 0) v4 (.sl 0 0 n n 7) [(List.replicate n blankT).flatMap (mCell true)] := by
  intro r
  induction r with
  | zero => intro m h; omega
  | succ r ih =>
    intro m hr h1 hm k v4 G
    have fl : (fill (mCell true) zCell0 (List.replicate n blankT) m).length = n * 7 := by rw [fill_len (es := 7) (fun _ => rfl) rfl _ _ (by rw [List.length_replicate]; exact hm), List.length_replicate]
    by_cases h2 : m < n
    · have g1 : kbin .lss (.int .i64 (m : Int)) (.int .i64 (n : Int)) = some (.bool true) := by rw [klt, decide_eq_true h2]
      have s1 : ksl 7 (.sl 0 0 n n 7) (some (.int .i64 (m : Int))) none none = some (.sl 0 (m * 7) (n - m) (n - m) 7) := by
        have q : (m : Int) ≤ n := by omega
        simp [ksl, kslice, gslice, gopt, gint, q]
      have s2 : ksl 7 (.sl 0 0 n n 7) none (some (.int .i64 (m : Int))) none = some (.sl 0 0 m n 7) := by
        have q : (m : Int) ≤ n := by omega
        simp [ksl, kslice, gslice, gopt, gint, q]
      have kc : kcopy 7 (.sl 0 (m * 7) (n - m) (n - m) 7) (.sl 0 0 m n 7) [fill (mCell true) zCell0 (List.replicate n blankT) m] = some (.int .i64 ((min m (n - m) : Nat) : Int), [fill (mCell true) zCell0 (List.replicate n blankT) (m + min m (n - m))]) := by
        have hg : gcells [fill (mCell true) zCell0 (List.replicate n blankT) m] 7 (.sl 0 0 m n 7) = some (m, (List.replicate m blankT).flatMap (mCell true), [0]) := by
          have := fill_head (mk := mCell true) (z := zCell0) (es := 7) (fun _ => rfl) blankT n m hm
          unfold gcells
          simp [fl, hm, this]
        unfold kcopy
        rw [hg]
        simp only [Option.bind_some]
        rw [if_pos (cells_all m)]
        have e1 : m * 7 + (n - m) * 7 = n * 7 := by rw [← Nat.add_mul]; congr 1; omega
        have e2 := take_rep (mk := mCell true) (es := 7) (fun _ => rfl) blankT m (min m (n - m)) (Nat.min_le_left _ _)
        have e3 := fill_more (mk := mCell true) (z := zCell0) (es := 7) (fun _ => rfl) rfl blankT n m (min m (n - m)) (by omega)
        simp only [cellsAt_if, List.getElem?_cons_zero, Option.bind_some, e1, fl, if_true, Nat.le_refl, and_self, e2, e3, List.set_cons_zero]
      have ka : kbin .add (.int .i64 (m : Int)) (.int .i64 ((min m (n - m) : Nat) : Int)) = some (.int .i64 ((m + min m (n - m) : Nat) : Int)) := by
        rw [kbin_add, wrap_id (by omega) (by omega)]; simp
      rw [S.slices_Repeat_impl_Cell.l9]
      simp [g1, s1, s2, kc, ka, -kbin_lss, -kbin_add, -Int.natCast_add]
      exact ih (m + min m (n - m)) (by omega) (by omega) (by omega) k v4 G
    · have : m = n := by omega
      subst this
      have g1 : kbin .lss (.int .i64 (m : Int)) (.int .i64 (m : Int)) = some (.bool false) := by rw [klt, decide_eq_false (by omega)]
      have e : fill (mCell true) zCell0 (List.replicate m blankT) m = (List.replicate m blankT).flatMap (mCell true) := by
        have := fill_all (mk := mCell true) (z := zCell0) (xs := List.replicate m blankT)
        rwa [List.length_replicate] at this
      rw [S.slices_Repeat_impl_Cell.l9]
      simp [g1, e, -kbin_lss]
theorem rNewS {α : Type} {es : Nat} {mk : α → List GV} {xs : List α} {H : Heap} {b : Nat} (h : H[b]? = some (xs.flatMap mk)) : RSl es (RFl mk) H [.sl b 0 xs.length xs.length es] xs [b] := by
  refine Or.inr ⟨b, xs.map mk, xs.map fun _ => [], rfl, by rw [h, List.flatMap_def], ?_, ?_⟩
  · clear h
    induction xs with
    | nil => exact .nil
    | cons x xs ih => exact .cons ⟨rfl, rfl⟩ ih
  · have : (xs.map fun _ => ([] : List Nat)).flatten = [] := by
      clear h
      induction xs with
      | nil => rfl
      | cons x xs ih => rw [List.map_cons, List.flatten_cons, ih]; rfl
    rw [this]
abbrev rowM (n : Nat) : List CellT := List.replicate n blankT
theorem slices_Repeat_spec (n : Nat) (h1 : 1 ≤ n) (hn : n ≤ 60) (b : Nat) : ∃ v bl, OO fn.slices_Repeat_impl_Cell [fzl true 7 (mCell true) [blankT], .int .i64 (n : Int)] b = some (v, bl) ∧ ∀ H T, H.length = b → rCellS (H ++ bl ++ T) [v] (rowM n) (List.range' b bl.length) := by
  have hr : rCellS [(rowM n).flatMap (mCell true)] [.sl 0 0 n n 7] (rowM n) [0] := by
    have := rNewS (es := 7) (mk := mCell true) (xs := rowM n) (H := [(rowM n).flatMap (mCell true)]) (b := 0) rfl
    rwa [List.length_replicate] at this
  obtain ⟨v, bl, f1, f2⟩ := goodCellS.fin (by omega) hr (by simp) b
  refine ⟨v, bl, S.slices_Repeat_impl_Cell.gives (k := 100) ?_, f2⟩
  have c1 : kconvI .u64 (.int .i64 1) = some (.int .u64 1) := rfl
  have c2 : kconvI .u64 (.int .i64 (n : Int)) = some (.int .u64 (n : Int)) := by
    rw [kconvI_int]; congr 2; simp [IntKind.wrap, IntKind.bits, IntKind.signed]; omega
  have c3 : kconvI .i64 (.int .u64 (n : Int)) = some (.int .i64 (n : Int)) := by rw [kconvI_int, wrap_id (by omega) (by omega)]
  have g0 : kbin .lss (.int .i64 (n : Int)) (.int .i64 0) = some (.bool false) := by rw [kbin_lss, decide_eq_false (by omega)]
  have g1 : kbin .gtr (.int .u64 (n : Int)) (.int .u64 9223372036854775807) = some (.bool false) := by rw [kbin_gtr, decide_eq_false (by omega)]
  have hk := kmake_eq (z := zCell0) (es := 7) (b := 40) (n := n) (h := []) (by omega) (by omega) rfl
  have fz0 : fill (mCell true) zCell0 (rowM n) 0 = zeros zCell0 n := by rw [fill_zero, List.length_replicate]
  have kc : kcopy 7 (.sl 0 0 n n 7) (fzl true 7 (mCell true) [blankT]) [zeros zCell0 n] = some (.int .i64 1, [fill (mCell true) zCell0 (rowM n) 1]) := by
    have hg : gcells [zeros zCell0 n] 7 (fzl true 7 (mCell true) [blankT]) = some (1, [blankT].flatMap (mCell true), []) := gcells_fzl (mk := mCell true) (es := 7) (fun _ => rfl)
    have e3 := fill_more (mk := mCell true) (z := zCell0) (es := 7) (fun _ => rfl) rfl blankT n 0 1 (by omega)
    rw [fz0] at e3
    simp only [Nat.zero_mul, Nat.zero_add] at e3
    unfold kcopy
    rw [hg]
    simp only [Option.bind_some]
    rw [if_pos (show ([blankT].flatMap (mCell true)).all GV.isCell = true from rfl)]
    have e4 : min 1 n = 1 := by omega
    have hz : (zeros zCell0 n).length = n * 7 := by rw [zeros_len']; rfl
    simp only [cellsAt_if, List.getElem?_cons_zero, Option.bind_some, Nat.zero_add, hz, if_true, Nat.le_refl, and_self, e4, List.set_cons_zero]
    rw [List.take_of_length_le (by show 7 ≤ 1 * 7; omega)]
    exact congrArg (fun x => some (GV.int .i64 1, [x])) e3
  have lp := repeat_loop (Q := GV × List (List GV)) n hn 100 1 (by omega) (by omega) h1 100
  simp only [show ((1 : Nat) : Int) = 1 from rfl] at lp
  have g2 : kbin .gtr (.int .u64 0) (.int .u64 0) = some (.bool false) := by rw [kbin_gtr]; rfl
  simp [S.slices_Repeat_impl_Cell.run, g0, g2, c1, c2, math_bits_Mul_one n hn, g1, c3, hk, kc, lp, f1, -kbin_lss, -kbin_gtr, -kconvI_int]
theorem bors_one1 {α : Type} {es d : Nat} {mk : α → List GV} {E : Rel α} (hE : Good es d mk E) (hd : d + 1 ≤ 9) {H : Heap} {v : GV} {x : List α} {R : List Nat} (he : RSl es E H [v] x R) {n : Int} : bors H [v, .int .i64 n] = some [fzl true es mk x, .int .i64 n] := by
  obtain ⟨g, h1, h2⟩ := (RSl.good hE).lend1 hd he
  injection h2 with h2
  rw [bors_cons, h1, ← h2]; rfl
theorem impl_in_t (a b c : Int) : NN fn.impl_in [.int .i64 a, .int .i64 b, .int .i64 c] = some (.bool (decide (b ≤ a ∧ a ≤ c))) := by
  apply S.impl_in.gives (k := 0)
  by_cases h1 : b ≤ a <;> by_cases h2 : a ≤ c <;> simp [S.impl_in.run, h1, h2]
theorem impl_StyleOk_0 : NN fn.impl_StyleOk [styleG] = some (.bool true) := by
  apply S.impl_StyleOk.gives (k := 0)
  have h := impl_in_t 0 0 8
  rw [decide_eq_true (by omega)] at h
  simp [S.impl_StyleOk.run, h]
theorem gCell : Good 7 1 (mCell true) (RFl (mCell true)) := RFl.good (es := 7) (mk := mCell true) (fun _ => rfl) (fun _ => rfl)
theorem impl_Blank_spec (n : Nat) (h1 : 1 ≤ n) (hn : n ≤ 60) (b : Nat) : ∃ v bl, OO fn.impl_Blank [.int .i64 (n : Int), styleG] b = some (v, bl) ∧ ∀ H T, H.length = b → rCellS (H ++ bl ++ T) [v] (rowM n) (List.range' b bl.length) := by
  obtain ⟨H0, hH0⟩ : ∃ H0 : Heap, [[.int .i64 0, .int .i64 0, .bool false, .bool false, .bool false], mCell true blankT] = H0 := ⟨_, rfl⟩
  have hr : rCellS H0 [.sl 1 0 1 1 7] [blankT] [1] := rNewS (es := 7) (mk := mCell true) (xs := [blankT]) (H := H0) (b := 1) (by rw [← hH0]; rfl)
  have l0 : H0.length = 2 := by rw [← hH0]; rfl
  have hbors : bors H0 [.sl 1 0 1 1 7, .int .i64 (n : Int)] = some [fzl true 7 (mCell true) [blankT], .int .i64 (n : Int)] := by
    exact (bors_one1 gCell (by omega) hr)
  obtain ⟨v, bl, e1, e2⟩ := slices_Repeat_spec n h1 hn H0.length
  have t1 : kF false HH fn.slices_Repeat_impl_Cell [.sl 1 0 1 1 7, .int .i64 (n : Int)] H0 = some (v, H0 ++ bl) := by
    rw [kF_OO, hbors]; simp [e1]
  have r1 : rCellS (H0 ++ bl) [v] (rowM n) (List.range' H0.length bl.length) := by simpa using e2 H0 [] rfl
  obtain ⟨v', bl', f1, f2⟩ := goodCellS.fin (by omega) r1 List.nodup_range' b
  refine ⟨v', bl', S.impl_Blank.gives (k := 0) ?_, f2⟩
  have hi := impl_in_t (n : Int) 1 60
  rw [decide_eq_true (by omega)] at hi
  have hk : ∀ {Q : Type} (K : GV → Heap → Option Q), kbs 1 7 (mCell true blankT) [[.int .i64 0, .int .i64 0, .bool false, .bool false, .bool false]] K = K (.sl 1 0 1 1 7) H0 := fun K => by rw [← hH0]; rfl
  simp [S.impl_Blank.run, hi, impl_StyleOk_0, impl_blank_spec, gfill, zeros, -kF_OO]
  rw [hk]
  simp [t1, f1, -kF_OO]
theorem row_succ (n : Nat) : rowM n ++ [blankT] = rowM (n + 1) := by unfold rowM; rw [List.replicate_succ']
/-- A row of blanks, put together one by one. -/
theorem spec_l4Row_spec (n : Nat) (hn : n ≤ 60) (b : Nat) : ∃ v bl, OO fn.spec_l4Row [.int .i64 (n : Int), styleG] b = some (v, bl) ∧ ∀ H T, H.length = b → rCellS (H ++ bl ++ T) [v] (rowM n) (List.range' b bl.length) := by
  obtain ⟨S0, hS0⟩ : ∃ S0 : List GV, [.int .i64 0, .int .i64 0, .bool false, .bool false, .bool false] = S0 := ⟨_, rfl⟩
  have key := loop_inv (n := n) (T := GV × Heap) (Inv := fun j s => s.2[0]? = some S0 ∧ ∃ R, rCellS s.2 [s.1] (rowM j) R ∧ R.Nodup ∧ ∀ i ∈ R, 1 ≤ i) (f := fun r j s => fun (G : GX → GV → GV → Heap → Option (GV × List (List GV))) => S.spec_l4Row.l6 61 G r (.int .i64 (n : Int)) (.ptr 0 0 5) .nils s.1 (.int .i64 (j : Int)) s.2) (A := fun s => fun G => G (.ext 0) .nils s.1 s.2) (s := (.emp, [S0])) ?_ ?_ ⟨rfl, [], Or.inl ⟨rfl, rfl, Or.inl rfl⟩, List.nodup_nil, fun i hi => (by cases hi)⟩ (m := 61) (by omega)
  · obtain ⟨⟨v, H⟩, a1, I0, R, hr, nd, hlo⟩ := key
    obtain ⟨v', bl', f1, f2⟩ := goodCellS.fin (by omega) hr nd b
    refine ⟨v', bl', S.spec_l4Row.gives (k := 61) ?_, f2⟩
    have a1' := fun G => congrFun a1 G
    simp only [show ((0 : Nat) : Int) = 0 from rfl] at a1'
    have hb : ∀ {Q : Type} (K : GV → Heap → Option Q), kbox styleG [] K = K (.ptr 0 0 5) [S0] := fun K => by rw [kbox_agg, ← hS0]; rfl
    simp [S.spec_l4Row.run, hb, a1', f1, -kbox_agg]
  · rintro j r ⟨v, H⟩ hj ⟨I0, R, hr, nd, hlo⟩
    simp only at I0 hr
    have kj := kadd1 (n := j) (by omega)
    have g1 : kbin .lss (.int .i64 (j : Int)) (.int .i64 (n : Int)) = some (.bool true) := by rw [klt, decide_eq_true hj]
    have lS := kloadA_at (n := 5) I0 (by rw [← hS0]; rfl)
    have hx : RFl (mCell true) (H ++ [mCell true blankT]) (mCell true blankT) blankT [] := ⟨rfl, rfl⟩
    have hpl := (List.getElem?_eq_some_iff.1 I0).1
    obtain ⟨v', H4, R', a1, a2, a3, a4, a5, a6, a7⟩ := app_sl gCell (by omega) (z := zCell0) (b := 40) rfl (by omega) (H := H ++ [mCell true blankT]) (goodCellS.grow hr) nd (by unfold rowM; rw [List.length_replicate]; omega) hx List.nodup_nil (fun i hi => (by cases hi)) (q := H.length) (by simp)
    rw [row_succ] at a2
    refine ⟨(v', H4), funext fun G => ?_, a5.blk ((Fr.app (R := []) (t := [mCell true blankT])).blk I0 no_nil) (fun h => by have := hlo 0 h; omega), R', a2, a3, fun i hi => ?_⟩
    · have sS : kN NN fn.spec_l4Blank [.agg S0] H = some (.agg (mCell true blankT)) := by rw [← hS0]; simp [spec_l4Blank_spec]
      have gf : gfill (fun i => some (i * 7, 7)) (zeros zCell0 1) [(0, .agg (mCell true blankT))] = some (mCell true blankT) := by simp [gfill, zeros]
      simp only [S.spec_l4Row.l6]
      simp [g1, lS, sS, gf, kbs_at, a1, kj, -kN_eq, -kloadA_ptr, -kbin_lss, -kbin_add, -Int.natCast_add]
    · rcases a4 i hi with h | h | h
      · exact hlo i h
      · cases h
      · rw [h]; simp
  · rintro r ⟨v, H⟩ _
    funext G
    have g1 : kbin .lss (.int .i64 (n : Int)) (.int .i64 (n : Int)) = some (.bool false) := by rw [klt, decide_eq_false (by omega)]
    simp only [S.spec_l4Row.l6]
    simp [g1, -kbin_lss]
abbrev GridT := Int × List (List CellT)
def gridM (c n : Nat) : GridT := ((c : Int), List.replicate n (rowM c))
/-- A grid that grows in block 1. -/
def GI (c : Nat) (j : Nat) (H : Heap) : Prop := H[0]? = some [.int .i64 0, .nils] ∧ ∃ vR R, H[1]? = some [.int .i64 (c : Int), vR] ∧ rCellSS H [vR] (List.replicate j (rowM c)) R ∧ R.Nodup ∧ ∀ i ∈ R, 2 ≤ i
theorem GI.step {c j : Nat} {H : Heap} (h : GI c j H) (hj : j ≤ 60) {f : FuncId} (hf : ∀ b, ∃ v bl, OO f [.int .i64 (c : Int), styleG] b = some (v, bl) ∧ ∀ H T, H.length = b → rCellS (H ++ bl ++ T) [v] (rowM c) (List.range' b bl.length)) :
    ∃ vR v H1 v' H4 H5, kload1 H (.ptr 1 1 2) = some vR ∧ kF false HH f [.int .i64 (c : Int), styleG] H = some (v, H1) ∧ v.cells = [v] ∧ kapp [.nils] 1 24 vR (.sl H1.length 0 1 1 1) (H1 ++ [[v]]) = some (v', H4) ∧ kstore 1 H4 (.ptr 1 1 2) v' = some H5 ∧ GI c (j + 1) H5 := by
  obtain ⟨I0, vR, R, I1, hr, nd, hlo⟩ := h
  obtain ⟨v, Rx, H1, t1, r1, n1, b1, f1, l1⟩ := fresh_one goodCellS (f := f) (args := [.int .i64 (c : Int), styleG]) (xs := [.int .i64 (c : Int), styleG]) (H := H) (by simp) (hf H.length)
  have q := kload1_at (o := 1) (tot := 2) I1 rfl
  have hm := goodCellSS.mem hr
  have hl := (List.getElem?_eq_some_iff.1 I1).1
  have vc := cell_of r1
  obtain ⟨v', H4, H5, R', a1, a2, a3, a4, a5, a6, a7⟩ := push goodCellS (by omega) (z := [.nils]) (b := 24) rfl (by omega) (goodCellSS.keep hr f1 (fun _ _ => no_nil)) nd (by rw [List.length_replicate]; omega) r1 n1 (fun i hi h => by have := b1 i hi; have := hm i h; omega) (p := 1) (o := 1) (n := 2) (f1.blk I1 no_nil) rfl (by omega) (fun h => by have := hlo 1 h; omega) (fun h => by have := b1 1 h; omega)
  refine ⟨vR, v, H1, v', H4, H5, q, t1, vc.1, a1, a2, a7.blk (f1.blk I0 no_nil) (fun h => ?_), v', R', a6, ?_, a4, fun i hi => ?_⟩
  · rcases List.mem_cons.1 h with h | h
    · cases h
    · have := hlo 0 h; omega
  · rw [List.replicate_succ']; exact a3
  · rcases a5 i hi with h | h | h
    · exact hlo i h
    · have := b1 i h; omega
    · omega
theorem GI.fin {c n : Nat} {H : Heap} (h : GI c n H) (b : Nat) : ∃ vR H', kloadA 2 H (.ptr 1 0 2) = some (.agg [.int .i64 (c : Int), vR]) ∧ kstore 2 H (.ptr 0 0 2) (.agg [.int .i64 (c : Int), vR]) = some H' ∧ kloadA 2 H' (.ptr 0 0 2) = some (.agg [.int .i64 (c : Int), vR]) ∧ ∃ R, rGrid H' [.int .i64 (c : Int), vR] (gridM c n) R ∧ R.Nodup := by
  obtain ⟨I0, vR, R, I1, hr, nd, hlo⟩ := h
  have vc := cell_of hr
  have hl := (List.getElem?_eq_some_iff.1 I0).1
  have s := kstoreA_at (n := 2) I0 rfl (c' := [.int .i64 (c : Int), vR]) rfl (by simp [vc.2])
  have f : Fr [0] H (H.set 0 [.int .i64 (c : Int), vR]) := .set (by simp)
  refine ⟨vR, _, kloadA_at (n := 2) I1 rfl, s, kloadA_at (n := 2) (by rw [List.getElem?_set_self hl]) rfl, R, ⟨[.int .i64 (c : Int)], [vR], [], R, rfl, rfl, ⟨rfl, rfl⟩, goodCellSS.keep hr f (fun i hi h => by rw [List.mem_singleton] at h; have := hlo i hi; omega)⟩, nd⟩
theorem spec_l5New_spec (c n : Nat) (hc : c ≤ 60) (hn : n ≤ 30) (b : Nat) : ∃ g bl, OO fn.spec_l5New [.int .i64 (c : Int), .int .i64 (n : Int)] b = some (.agg g, bl) ∧ ∀ H T, H.length = b → rGrid (H ++ bl ++ T) g (gridM c n) (List.range' b bl.length) := by
  refine Exists.elim (loop_inv (n := n) (T := Heap) (Inv := GI c) (f := fun r j H => fun (G : GX → GV → GV → Heap → Option (GV × List (List GV))) => S.spec_l5New.l6 61 G r (.int .i64 (c : Int)) (.int .i64 (n : Int)) (.ptr 0 0 2) (.ptr 1 0 2) (.int .i64 (j : Int)) H) (A := fun H => fun G => G (.ext 0) (.ptr 0 0 2) (.ptr 1 0 2) H) (s := [[.int .i64 0, .nils], [.int .i64 (c : Int), .nils]]) ?_ ?_ ⟨rfl, .nils, [], rfl, Or.inl ⟨rfl, rfl, Or.inr rfl⟩, List.nodup_nil, fun i hi => (by cases hi)⟩ (m := 61) (by omega)) (fun H h => ?_)
  · rintro j r H hj hi
    obtain ⟨vR, v, H1, v', H4, H5, e1, e2, e3, e4, e5, e6⟩ := hi.step (by omega) (f := fn.spec_l4Row) (fun b => spec_l4Row_spec c hc b)
    refine ⟨H5, funext fun G => ?_, e6⟩
    have kj := kadd1 (n := j) (by omega)
    have g1 : kbin .lss (.int .i64 (j : Int)) (.int .i64 (n : Int)) = some (.bool true) := by rw [klt, decide_eq_true hj]
    simp only [S.spec_l5New.l6]
    simp [g1, e1, gfill, zeros, e2, e3, kbs_at, e4, e5, kj, -kF_OO, -kload1_ptr, -kstore_ptr, -kbin_lss, -kbin_add, -Int.natCast_add]
  · rintro r H _
    funext G
    have g1 : kbin .lss (.int .i64 (n : Int)) (.int .i64 (n : Int)) = some (.bool false) := by rw [klt, decide_eq_false (by omega)]
    simp only [S.spec_l5New.l6]
    simp [g1, -kbin_lss]
  · obtain ⟨vR, H', k1, k2, k3, R, hr, nd⟩ := h.2.fin b
    obtain ⟨g, bl, f1, f2⟩ := goodGrid.finS (by omega) hr nd b
    have a1 := fun G => congrFun h.1 G
    simp only [show ((0 : Nat) : Int) = 0 from rfl] at a1
    refine ⟨g, bl, S.spec_l5New.gives (k := 61) ?_, f2⟩
    have s0 : kstore 2 [[.int .i64 0, .nils], [.int .i64 0, .nils]] (.ptr 1 0 2) (.agg [.int .i64 (c : Int), .nils]) = some [[.int .i64 0, .nils], [.int .i64 (c : Int), .nils]] := by simp
    simp [S.spec_l5New.run, gfill, s0, a1, k1, k2, k3, f1, -kloadA_ptr, -kstore_ptr]
theorem impl_NewGrid_spec (c n : Nat) (hc1 : 1 ≤ c) (hc : c ≤ 60) (hn1 : 1 ≤ n) (hn : n ≤ 30) (b : Nat) : ∃ g bl, OO fn.impl_NewGrid [.int .i64 (c : Int), .int .i64 (n : Int)] b = some (.tup [.agg g, .bool true], bl) ∧ ∀ H T, H.length = b → rGrid (H ++ bl ++ T) g (gridM c n) (List.range' b bl.length) := by
  have i1 := impl_in_t (c : Int) 1 60
  rw [decide_eq_true (by omega)] at i1
  have i2 := impl_in_t (n : Int) 1 30
  rw [decide_eq_true (by omega)] at i2
  refine Exists.elim (loop_inv (n := n) (T := Heap) (Inv := GI c) (f := fun r j H => fun (G : GX → GV → GV → GV → Heap → Option (GV × List (List GV))) => S.impl_NewGrid.l7 61 G r (.int .i64 (c : Int)) (.ptr 0 0 2) (.bool false) (.ptr 1 0 2) (.int .i64 (n : Int)) (.int .i64 (j : Int)) H) (A := fun H => fun G => G (.ext 0) (.ptr 0 0 2) (.bool false) (.ptr 1 0 2) H) (s := [[.int .i64 0, .nils], [.int .i64 (c : Int), .nils]]) ?_ ?_ ⟨rfl, .nils, [], rfl, Or.inl ⟨rfl, rfl, Or.inr rfl⟩, List.nodup_nil, fun i hi => (by cases hi)⟩ (m := 61) (by omega)) (fun H h => ?_)
  · rintro j r H hj hi
    obtain ⟨vR, v, H1, v', H4, H5, e1, e2, e3, e4, e5, e6⟩ := hi.step (by omega) (f := fn.impl_Blank) (fun b => impl_Blank_spec c hc1 hc b)
    refine ⟨H5, funext fun G => ?_, e6⟩
    have kj := kadd1 (n := j) (by omega)
    have g1 : kbin .lss (.int .i64 (j : Int)) (.int .i64 (n : Int)) = some (.bool true) := by rw [klt, decide_eq_true hj]
    simp only [S.impl_NewGrid.l7]
    simp [g1, e1, gfill, zeros, e2, e3, kbs_at, e4, e5, kj, -kF_OO, -kload1_ptr, -kstore_ptr, -kbin_lss, -kbin_add, -Int.natCast_add]
  · rintro r H _
    funext G
    have g1 : kbin .lss (.int .i64 (n : Int)) (.int .i64 (n : Int)) = some (.bool false) := by rw [klt, decide_eq_false (by omega)]
    simp only [S.impl_NewGrid.l7]
    simp [g1, -kbin_lss]
  · obtain ⟨vR, H', k1, k2, k3, R, hr, nd⟩ := h.2.fin b
    obtain ⟨g, bl, f1, f2⟩ := goodGrid.finT (t := true) (by omega) hr nd b
    have a1 := fun G => congrFun h.1 G
    simp only [show ((0 : Nat) : Int) = 0 from rfl] at a1
    refine ⟨g, bl, S.impl_NewGrid.gives (k := 61) ?_, f2⟩
    have s0 : kstore 2 [[.int .i64 0, .nils], [.int .i64 0, .nils]] (.ptr 1 0 2) (.agg [.int .i64 (c : Int), .nils]) = some [[.int .i64 0, .nils], [.int .i64 (c : Int), .nils]] := by simp
    simp [S.impl_NewGrid.run, i1, i2, gfill, s0, a1, k1, k2, k3, f1, -kloadA_ptr, -kstore_ptr]
/-! A grid in new memory. -/
theorem slices_Clone_cell_spec (xs : List CellT) (hm : xs.length ≤ 4194304) (b : Nat) (h0 : xs.length ≠ 0) : OO fn.slices_Clone_impl_Cell [fzl true 7 (mCell true) xs] b = some (.sl b 0 xs.length xs.length 7, [xs.flatMap (mCell true)]) := by
  apply S.slices_Clone_impl_Cell.gives (k := 0)
  have hg : gbinop PP .eql 101 (.tmp 3) (.const (.slice none 0 0)) (fzl true 7 (mCell true) xs) .nils = some (.bool false) := by
    cases xs with
    | nil => exact absurd rfl h0
    | cons x xs => kernel_rfl
  simp [S.slices_Clone_impl_Cell.run, hg, kapp_emp (mk := mCell true) (es := 7) (b := 40) (z := zCell0) (fun _ => rfl) (fun _ => rfl) rfl (by omega) hm, h0]
  have hl : (xs.flatMap (mCell true)).length = xs.length * 7 := len_flat (mk := mCell true) (es := 7) (fun _ => rfl) xs
  rw [finO_sl_pl (cs := xs.flatMap (mCell true)) (by simp) hl (Nat.le_refl _) (by rw [List.take_of_length_le (by omega)]; exact all_flat (fun _ => rfl) xs)]
  rw [List.take_of_length_le (by omega)]
theorem clone_row (xs : List CellT) (hm : xs.length ≤ 4194304) (h0 : xs.length ≠ 0) (H : Heap) : ∃ v R H', kF true HH fn.slices_Clone_impl_Cell [fzl true 7 (mCell true) xs] H = some (v, H') ∧ rCellS H' [v] xs R ∧ R.Nodup ∧ Bd R H.length H'.length ∧ Fr [] H H' := by
  refine ⟨.sl H.length 0 xs.length xs.length 7, [H.length], H ++ [xs.flatMap (mCell true)], ?_, rNewS (by simp), by simp, fun i hi => by rw [List.mem_singleton] at hi; simp; omega, .app⟩
  unfold kF
  have hb : bors H [fzl true 7 (mCell true) xs] = some [fzl true 7 (mCell true) xs] := by simp
  rw [hb]
  have he : emptyArg [fzl true 7 (mCell true) xs] = false := by
    cases xs with
    | nil => exact absurd rfl h0
    | cons x xs => rfl
  simp only [Option.bind_some, he, Bool.and_false, cond_false]
  have := slices_Clone_cell_spec xs hm H.length h0
  have h2 : (HH fn.slices_Clone_impl_Cell [fzl true 7 (mCell true) xs] []).bind (fun r => (ownOk r H.length).bind fun q => some (q.1, H ++ q.2)) = ((HH fn.slices_Clone_impl_Cell [fzl true 7 (mCell true) xs] []).bind fun r => ownOk r H.length).bind fun q => some (q.1, H ++ q.2) := by rw [Option.bind_assoc]
  rw [h2]
  show (OO fn.slices_Clone_impl_Cell [fzl true 7 (mCell true) xs] H.length).bind _ = _
  rw [this]
  rfl
/-- A copy that grows in block 2. -/
def GC (M : List GV) (c : Nat) (j : Nat) (H : Heap) : Prop := H[0]? = some M ∧ H[1]? = some [.int .i64 0, .nils] ∧ ∃ vR R, H[2]? = some [.int .i64 (c : Int), vR] ∧ rCellSS H [vR] (List.replicate j (rowM c)) R ∧ R.Nodup ∧ ∀ i ∈ R, 3 ≤ i
theorem impl_Grid_copied_spec (c n : Nat) (hc1 : 1 ≤ c) (hc : c ≤ 60) (hn : n ≤ 30) (b : Nat) : ∃ g bl, OO fn.impl_Grid_copied [.agg (mGrid true (gridM c n))] b = some (.agg g, bl) ∧ ∀ H T, H.length = b → rGrid (H ++ bl ++ T) g (gridM c n) (List.range' b bl.length) := by
  obtain ⟨M, hM⟩ : ∃ M, mGrid true (gridM c n) = M := ⟨_, rfl⟩
  have hML : M.length = 2 := by rw [← hM]; rfl
  have hM0 : M[0]? = some (.int .i64 (c : Int)) := by rw [← hM]; rfl
  have hM1 : M[1]? = some (fzl true 1 (mCellS true) (List.replicate n (rowM c))) := by rw [← hM]; rfl
  rw [hM]
  refine Exists.elim (loop_inv (n := n) (T := Heap) (Inv := GC M c) (f := fun r j H => fun (G : GX → GV → GV → Heap → Option (GV × List (List GV))) => S.impl_Grid_copied.l6 61 G r (.ptr 1 0 2) (.ptr 2 0 2) (fzl true 1 (mCellS true) (List.replicate n (rowM c))) (.int .i64 (n : Int)) (.int .i64 (j : Int)) H) (A := fun H => fun G => G (.ext 0) (.ptr 1 0 2) (.ptr 2 0 2) H) (s := [M, [.int .i64 0, .nils], [.int .i64 (c : Int), .nils]]) ?_ ?_ ⟨rfl, rfl, .nils, [], rfl, Or.inl ⟨rfl, rfl, Or.inr rfl⟩, List.nodup_nil, fun i hi => (by cases hi)⟩ (m := 61) (by omega)) (fun H h => ?_)
  · rintro j r H hj ⟨I0, I1, vR, R, I2, hr, nd, hlo⟩
    have kj := kadd1 (n := j) (by omega)
    have g1 : kbin .lss (.int .i64 (j : Int)) (.int .i64 (n : Int)) = some (.bool true) := by rw [klt, decide_eq_true hj]
    have hlr : (rowM c).length = c := List.length_replicate
    obtain ⟨v, Rx, H1, t1, r1, n1, b1, f1⟩ := clone_row (rowM c) (by omega) (by omega) H
    have q := kload1_at (o := 1) (tot := 2) I2 rfl
    have hm := goodCellSS.mem hr
    have hl := (List.getElem?_eq_some_iff.1 I2).1
    have vc := cell_of r1
    have hl1 := f1.1
    obtain ⟨v', H4, H5, R', a1, a2, a3, a4, a5, a6, a7⟩ := push goodCellS (by omega) (z := [.nils]) (b := 24) rfl (by omega) (goodCellSS.keep hr f1 (fun _ _ => no_nil)) nd (by rw [List.length_replicate]; omega) r1 n1 (fun i hi h => by have := b1 i hi; have := hm i h; omega) (p := 2) (o := 1) (n := 2) (f1.blk I2 no_nil) rfl (by omega) (fun h => by have := hlo 2 h; omega) (fun h => by have := b1 2 h; omega)
    have hno : ∀ i, i < 2 → i ∉ 2 :: R := fun i hi h => by
      rcases List.mem_cons.1 h with h | h
      · omega
      · have := hlo i h; omega
    refine ⟨H5, funext fun G => ?_, a7.blk (f1.blk I0 no_nil) (hno 0 (by omega)), a7.blk (f1.blk I1 no_nil) (hno 1 (by omega)), v', R', a6, ?_, a4, fun i hi => ?_⟩
    · have hji : (j : Int) < (n : Int) := by omega
      have hget : (List.replicate n (rowM c))[j]? = some (rowM c) := by rw [List.getElem?_replicate, if_pos hj]
      simp only [S.impl_Grid_copied.l6]
      simp [g1, hji, hj, hget, q, t1, gfill, zeros, vc.1, kbs_at, a1, a2, kj, -kF_OO, -kload1_ptr, -kstore_ptr, -kbin_lss, -kbin_add, -Int.natCast_add]
    · rw [List.replicate_succ']; exact a3
    · rcases a5 i hi with h | h | h
      · exact hlo i h
      · have := b1 i h; omega
      · omega
  · rintro r H _
    funext G
    have g1 : kbin .lss (.int .i64 (n : Int)) (.int .i64 (n : Int)) = some (.bool false) := by rw [klt, decide_eq_false (by omega)]
    simp only [S.impl_Grid_copied.l6]
    simp [g1, -kbin_lss]
  · obtain ⟨I0, I1, vR, R, I2, hr, nd, hlo⟩ := h.2
    have vc := cell_of hr
    have hl := (List.getElem?_eq_some_iff.1 I1).1
    have k1 := kloadA_at (n := 2) I2 rfl
    have k2 := kstoreA_at (n := 2) I1 rfl (c' := [.int .i64 (c : Int), vR]) rfl (by simp [vc.2])
    have f : Fr [1] H (H.set 1 [.int .i64 (c : Int), vR]) := .set (by simp)
    have k3 := kloadA_at (n := 2) (H := H.set 1 [.int .i64 (c : Int), vR]) (p := 1) (c := [.int .i64 (c : Int), vR]) (by rw [List.getElem?_set_self hl]) rfl
    have hg : rGrid (H.set 1 [.int .i64 (c : Int), vR]) [.int .i64 (c : Int), vR] (gridM c n) R := ⟨[.int .i64 (c : Int)], [vR], [], R, rfl, rfl, ⟨rfl, rfl⟩, goodCellSS.keep hr f (fun i hi h => by rw [List.mem_singleton] at h; have := hlo i hi; omega)⟩
    obtain ⟨g, bl, f1, f2⟩ := goodGrid.finS (by omega) hg nd b
    have a1 := fun G => congrFun h.1 G
    simp only [show ((0 : Nat) : Int) = 0 from rfl] at a1
    refine ⟨g, bl, S.impl_Grid_copied.gives (k := 61) ?_, f2⟩
    have hb : ∀ {Q : Type} (K : GV → Heap → Option Q), kbox (.agg M) [] K = K (.ptr 0 0 2) [M] := fun K => by rw [kbox_agg, hML]; rfl
    have e0 := kload1_at (h := [M, [.int .i64 0, .nils]]) (b := 0) (o := 0) (tot := 2) rfl hML
    have e1 := kload1_at (h := [M, [.int .i64 0, .nils], [.int .i64 (c : Int), .nils]]) (b := 0) (o := 1) (tot := 2) rfl hML
    have s0 : kstore 2 [M, [.int .i64 0, .nils], [.int .i64 0, .nils]] (.ptr 2 0 2) (.agg [.int .i64 (c : Int), .nils]) = some [M, [.int .i64 0, .nils], [.int .i64 (c : Int), .nils]] := by simp
    rw [hM0] at e0
    rw [hM1] at e1
    simp [S.impl_Grid_copied.run, hb, e0, gfill, s0, e1, a1, k1, k2, k3, f1, -kloadA_ptr, -kstore_ptr, -kload1_ptr, -kbox_agg]
abbrev StyleT := Int × Int × Bool × Bool × Bool
abbrev TermT := GridT × GridT × Int × Int × StyleT × Int × Int × Bool × Bool × Bool × Bool × Int × Int × StyleT × List Int × (Int × List Int × Int × List Int) × ByteArray
/-- A new screen. -/
def termM (c n : Nat) : TermT := (gridM c n, gridM c n, 0, 0, (0, 0, false, false, false), 0, (n : Int) - 1, false, true, false, false, 0, 0, (0, 0, false, false, false), [], (1, [], 0, []), { data := #[] })
abbrev termC (n : Nat) (a1 b1 a2 b2 : GV) : List GV := [a1, b1, a2, b2, .int .i64 0, .int .i64 0, .int .i64 0, .int .i64 0, .bool false, .bool false, .bool false, .int .i64 0, .int .i64 ((n : Int) - 1), .bool false, .bool true, .bool false, .bool false, .int .i64 0, .int .i64 0, .int .i64 0, .int .i64 0, .bool false, .bool false, .bool false, .nils, .int .i64 1, .nils, .int .i64 0, .nils, .str { data := #[] }]
theorem term_rel {c n : Nat} {H : Heap} {a1 b1 a2 b2 : GV} {R1 R2 : List Nat} (h1 : rGrid H [a1, b1] (gridM c n) R1) (h2 : rGrid H [a2, b2] (gridM c n) R2) : rTerm H (termC n a1 b1 a2 b2) (termM c n) (R1 ++ (R2 ++ [])) := ⟨[a1, b1], _, R1, R2 ++ [], rfl, rfl, h1, ⟨[a2, b2], _, R2, [], rfl, rfl, h2, ⟨[.int .i64 0], _, [], [], rfl, rfl, ⟨rfl, rfl⟩, ⟨[.int .i64 0], _, [], [], rfl, rfl, ⟨rfl, rfl⟩, ⟨[.int .i64 0, .int .i64 0, .bool false, .bool false, .bool false], _, [], [], rfl, rfl, ⟨rfl, rfl⟩, ⟨[.int .i64 0], _, [], [], rfl, rfl, ⟨rfl, rfl⟩, ⟨[.int .i64 ((n : Int) - 1)], _, [], [], rfl, rfl, ⟨rfl, rfl⟩, ⟨[.bool false], _, [], [], rfl, rfl, ⟨rfl, rfl⟩, ⟨[.bool true], _, [], [], rfl, rfl, ⟨rfl, rfl⟩, ⟨[.bool false], _, [], [], rfl, rfl, ⟨rfl, rfl⟩, ⟨[.bool false], _, [], [], rfl, rfl, ⟨rfl, rfl⟩, ⟨[.int .i64 0], _, [], [], rfl, rfl, ⟨rfl, rfl⟩, ⟨[.int .i64 0], _, [], [], rfl, rfl, ⟨rfl, rfl⟩, ⟨[.int .i64 0, .int .i64 0, .bool false, .bool false, .bool false], _, [], [], rfl, rfl, ⟨rfl, rfl⟩, ⟨[.nils], _, [], [], rfl, rfl, Or.inl ⟨rfl, rfl, Or.inr rfl⟩, ⟨[.int .i64 1, .nils, .int .i64 0, .nils], _, [], [], rfl, rfl, ⟨[.int .i64 1], _, [], [], rfl, rfl, ⟨rfl, rfl⟩, ⟨[.nils], _, [], [], rfl, rfl, Or.inl ⟨rfl, rfl, Or.inr rfl⟩, ⟨[.int .i64 0], _, [], [], rfl, rfl, ⟨rfl, rfl⟩, Or.inl ⟨rfl, rfl, Or.inr rfl⟩⟩⟩⟩, ⟨rfl, rfl⟩⟩⟩⟩⟩⟩⟩⟩⟩⟩⟩⟩⟩⟩⟩⟩⟩
abbrev zTerm0 : List GV := [.int .i64 0, .nils, .int .i64 0, .nils, .int .i64 0, .int .i64 0, .int .i64 0, .int .i64 0, .bool false, .bool false, .bool false, .int .i64 0, .int .i64 0, .bool false, .bool false, .bool false, .bool false, .int .i64 0, .int .i64 0, .int .i64 0, .int .i64 0, .bool false, .bool false, .bool false, .nils, .int .i64 0, .nils, .int .i64 0, .nils, .str { data := #[] }]
theorem grid_two {H : Heap} {g : List GV} {x : GridT} {R : List Nat} (h : rGrid H g x R) : ∃ a b, g = [a, b] ∧ a.isCell = true ∧ b.isCell = true := by
  have hl := goodGrid.len h
  have hc := goodGrid.cell h
  match g, hl with
  | [a, b], _ =>
    simp only [List.all_cons, List.all_nil, Bool.and_true, Bool.and_eq_true] at hc
    exact ⟨a, b, rfl, hc.1, hc.2⟩
theorem impl_newTerm_spec (c n : Nat) (hc1 : 1 ≤ c) (hc : c ≤ 60) (hn1 : 1 ≤ n) (hn : n ≤ 30) (b : Nat) : ∃ g bl, OO fn.impl_newTerm [.int .i64 (c : Int), .int .i64 (n : Int)] b = some (.agg g, bl) ∧ ∀ H T, H.length = b → rTerm (H ++ bl ++ T) g (termM c n) (List.range' b bl.length) := by
  obtain ⟨H0, hH0⟩ : ∃ H0 : Heap, [zTerm0] = H0 := ⟨_, rfl⟩
  have Z0 : H0[0]? = some zTerm0 := by rw [← hH0]; rfl
  have l0 : H0.length = 1 := by rw [← hH0]; rfl
  obtain ⟨g1, R1, H1, t1, r1, n1, b1, f1, l1⟩ := fresh_tup goodGrid (t := true) (f := fn.impl_NewGrid) (args := [.int .i64 (c : Int), .int .i64 (n : Int)]) (xs := [.int .i64 (c : Int), .int .i64 (n : Int)]) (H := H0) (by simp) (impl_NewGrid_spec c n hc1 hc hn1 hn H0.length)
  obtain ⟨x1, y1, rfl, cx1, cy1⟩ := grid_two r1
  have v1 := var_at (H := H1) (z := [.int .i64 0, .nils]) (c := [x1, y1]) (n := 2) rfl rfl (goodGrid.cell r1)
  obtain ⟨H2, hH2⟩ : ∃ H2, H1 ++ [[x1, y1]] = H2 := ⟨_, rfl⟩
  have f2 : Fr [] H1 H2 := by rw [← hH2]; exact .app
  have l2 : H2.length = H1.length + 1 := by rw [← hH2]; simp
  have X2 : H2[H1.length]? = some [x1, y1] := by rw [← hH2]; simp
  rw [hH2] at v1
  have r2 := goodGrid.keep r1 f2 (fun _ _ => no_nil)
  obtain ⟨g3, R3, H3, t3, r3, n3, b3, f3, l3⟩ := fresh_agg goodGrid (f := fn.impl_Grid_copied) (args := [.agg [x1, y1]]) (xs := [.agg (mGrid true (gridM c n))]) (H := H2) (bors_agg goodGrid (by omega) r2 rfl) (impl_Grid_copied_spec c n hc1 hc hn H2.length)
  obtain ⟨x3, y3, rfl, cx3, cy3⟩ := grid_two r3
  have r3a := goodGrid.keep r2 f3 (fun _ _ => no_nil)
  have Z3 := f3.blk (f2.blk (f1.blk Z0 no_nil) no_nil) no_nil
  have w : kbin .sub (.int .i64 (n : Int)) (.int .i64 1) = some (.int .i64 ((n : Int) - 1)) := by rw [kbin_sub, wrap_id (by omega) (by omega)]
  have s4 := kstoreA_at (n := 30) Z3 rfl (c' := termC n x1 y1 x3 y3) rfl (by simp [cx1, cy1, cx3, cy3])
  have hl3 := (List.getElem?_eq_some_iff.1 Z3).1
  obtain ⟨H4, hH4⟩ : ∃ H4, H3.set 0 (termC n x1 y1 x3 y3) = H4 := ⟨_, rfl⟩
  have f4 : Fr [0] H3 H4 := by rw [← hH4]; exact .set (by simp)
  have Z4 : H4[0]? = some (termC n x1 y1 x3 y3) := by rw [← hH4, List.getElem?_set_self hl3]
  rw [hH4] at s4
  have l4 := kloadA_at (n := 30) Z4 rfl
  have n0 : ∀ (R : List Nat) (u v : Nat), Bd R u v → 0 < u → ∀ i ∈ R, i ∉ [0] := fun R u v hb hu i hi h => by have := hb i hi; rw [List.mem_singleton] at h; omega
  have hr := term_rel (goodGrid.keep r3a f4 (n0 _ _ _ b1 (by omega))) (goodGrid.keep r3 f4 (n0 _ _ _ b3 (by omega)))
  have nd : (R1 ++ (R3 ++ [])).Nodup := by
    rw [List.append_nil, List.nodup_append]
    exact ⟨n1, n3, fun i hi k hk e => by have := b1 i hi; have := b3 k hk; omega⟩
  obtain ⟨g, bl, e1, e2⟩ := goodTerm.finS (by omega) hr nd b
  refine ⟨g, bl, S.impl_newTerm.gives (k := 0) ?_, e2⟩
  have hal : ∀ {Q : Type} (K : GV → Heap → Option Q), kalloc zTerm0 [] K = K (.ptr 0 0 30) H0 := fun K => by rw [← hH0]; rfl
  have lX := kloadA_at (n := 2) X2 rfl
  simp only [S.impl_newTerm.run, S.impl_newTerm.n0]
  rw [hal]
  simp [t1, kalloc_at, v1, lX, t3, w, gfill, s4, l4, e1, -kF_OO, -kloadA_ptr, -kstore_ptr, -kalloc_eq, -kbin_sub]
theorem spec_l6State_spec (b : Nat) : OO fn.spec_l6State [.int .i64 1] b = some (.agg [.int .i64 1, .nils, .int .i64 0, .nils], []) := by
  apply S.spec_l6State.gives (k := 0)
  simp [S.spec_l6State.run, gfill]
  rfl
theorem spec_l7New_spec (c n : Nat) (hc1 : 1 ≤ c) (hc : c ≤ 60) (hn1 : 1 ≤ n) (hn : n ≤ 30) (b : Nat) : ∃ g bl, OO fn.spec_l7New [.int .i64 (c : Int), .int .i64 (n : Int)] b = some (.agg g, bl) ∧ ∀ H T, H.length = b → rTerm (H ++ bl ++ T) g (termM c n) (List.range' b bl.length) := by
  obtain ⟨H0, hH0⟩ : ∃ H0 : Heap, [zTerm0] = H0 := ⟨_, rfl⟩
  have Z0 : H0[0]? = some zTerm0 := by rw [← hH0]; rfl
  have l0 : H0.length = 1 := by rw [← hH0]; rfl
  obtain ⟨g1, R1, H1, t1, r1, n1, b1, f1, l1⟩ := fresh_agg goodGrid (f := fn.spec_l5New) (args := [.int .i64 (c : Int), .int .i64 (n : Int)]) (xs := [.int .i64 (c : Int), .int .i64 (n : Int)]) (H := H0) (by simp) (spec_l5New_spec c n hc hn H0.length)
  obtain ⟨x1, y1, rfl, cx1, cy1⟩ := grid_two r1
  obtain ⟨g3, R3, H3, t3, r3, n3, b3, f3, l3⟩ := fresh_agg goodGrid (f := fn.spec_l5New) (args := [.int .i64 (c : Int), .int .i64 (n : Int)]) (xs := [.int .i64 (c : Int), .int .i64 (n : Int)]) (H := H1) (by simp) (spec_l5New_spec c n hc hn H1.length)
  obtain ⟨x3, y3, rfl, cx3, cy3⟩ := grid_two r3
  have r3a := goodGrid.keep r1 f3 (fun _ _ => no_nil)
  have t6 : kF false HH fn.spec_l6State [.int .i64 1] H3 = some (.agg [.int .i64 1, .nils, .int .i64 0, .nils], H3) := by
    rw [kF_OO]; simp [spec_l6State_spec]
  have Z3 := f3.blk (f1.blk Z0 no_nil) no_nil
  have w : kbin .sub (.int .i64 (n : Int)) (.int .i64 1) = some (.int .i64 ((n : Int) - 1)) := by rw [kbin_sub, wrap_id (by omega) (by omega)]
  have s4 := kstoreA_at (n := 30) Z3 rfl (c' := termC n x1 y1 x3 y3) rfl (by simp [cx1, cy1, cx3, cy3])
  have hl3 := (List.getElem?_eq_some_iff.1 Z3).1
  obtain ⟨H4, hH4⟩ : ∃ H4, H3.set 0 (termC n x1 y1 x3 y3) = H4 := ⟨_, rfl⟩
  have f4 : Fr [0] H3 H4 := by rw [← hH4]; exact .set (by simp)
  have Z4 : H4[0]? = some (termC n x1 y1 x3 y3) := by rw [← hH4, List.getElem?_set_self hl3]
  rw [hH4] at s4
  have l4 := kloadA_at (n := 30) Z4 rfl
  have n0 : ∀ (R : List Nat) (u v : Nat), Bd R u v → 0 < u → ∀ i ∈ R, i ∉ [0] := fun R u v hb hu i hi h => by have := hb i hi; rw [List.mem_singleton] at h; omega
  have hr := term_rel (goodGrid.keep r3a f4 (n0 _ _ _ b1 (by omega))) (goodGrid.keep r3 f4 (n0 _ _ _ b3 (by omega)))
  have nd : (R1 ++ (R3 ++ [])).Nodup := by
    rw [List.append_nil, List.nodup_append]
    exact ⟨n1, n3, fun i hi k hk e => by have := b1 i hi; have := b3 k hk; omega⟩
  obtain ⟨g, bl, e1, e2⟩ := goodTerm.finS (by omega) hr nd b
  refine ⟨g, bl, S.spec_l7New.gives (k := 0) ?_, e2⟩
  have hal : ∀ {Q : Type} (K : GV → Heap → Option Q), kalloc zTerm0 [] K = K (.ptr 0 0 30) H0 := fun K => by rw [← hH0]; rfl
  simp only [S.spec_l7New.run, S.spec_l7New.n0]
  rw [hal]
  simp [t1, t3, t6, w, gfill, s4, l4, e1, -kF_OO, -kloadA_ptr, -kstore_ptr, -kalloc_eq, -kbin_sub]
theorem RFl.frz {α : Type} {mk : α → List GV} (hp : ∀ x, (mk x).all Pl = true) {d : Nat} {h : Heap} {c : List GV} {x : α} {R : List Nat} (he : RFl mk h c x R) : Frz (d + 1) h c (mk x) := by
  obtain ⟨rfl, rfl⟩ := he
  have := hp x
  generalize mk x = l at this
  induction l with
  | nil => exact .nil
  | cons g l ih =>
    rw [List.all_cons, Bool.and_eq_true] at this
    refine .cons (r := []) ?_ (ih this.2)
    cases g <;> first | rfl | cases this.1
theorem RSl.frz {α : Type} {es d : Nat} {mk mk' : α → List GV} {E : Rel α} (hG : Good es d mk E) {n : Nat} {h : Heap} (hE : ∀ c x R, E h c x R → Frz n h c (mk' x)) {v : GV} {xs : List α} {R : List Nat} (he : RSl es E h [v] xs R) : Frz (n + 1) h [v] [fzl false es mk' xs] := by
  rcases he with ⟨rfl, rfl, hc⟩ | ⟨b, css, Rs, hv, hb, ha, rfl⟩
  · rcases hc with hc | hc <;> (injection hc with hc; subst hc; exact .cons (r := []) rfl .nil)
  · injection hv with hv
    subst hv
    obtain ⟨fl, fe⟩ := All3.flen (fun h => hG.len h) ha
    have hf : Frz n h css.flatten (xs.flatMap mk') := by
      clear hb fl fe
      induction ha with
      | nil => exact .nil
      | cons a _ ih => exact .append (hE _ _ _ a) ih
    obtain ⟨ys, h1, h2⟩ := hf
    refine .cons (r := []) ?_ .nil
    simp only [Go.Proofs.Ytolhjndfplfjpaa.G.frz, Option.bind_eq_bind, cellsAt_if, hb, Option.bind_some, Nat.zero_add, fl, if_true, List.drop_zero]
    rw [List.take_of_length_le (by omega), h1]
    simp only [Option.bind_some, Nat.le_refl, if_true]
    cases xs with
    | nil => rfl
    | cons x xs => simp [fzl, h2]
theorem RSl.frz' {α : Type} {es d : Nat} {mk mk' : α → List GV} {E : Rel α} (hG : Good es d mk E) {n : Nat} {h : Heap} (hE : ∀ c x R, E h c x R → Frz n h c (mk' x)) : ∀ c xs R, RSl es E h c xs R → Frz (n + 1) h c [fzl false es mk' xs] := fun c xs R he => by
  obtain ⟨v, rfl⟩ := List.length_eq_one_iff.1 ((RSl.good hG).len he)
  exact RSl.frz hG hE he
theorem RSeq.frz {α β : Type} {E : Rel α} {F : Rel β} {n : Nat} {h : Heap} {mk1 : α → List GV} {mk2 : β → List GV} (hE : ∀ c x R, E h c x R → Frz n h c (mk1 x)) (hF : ∀ c x R, F h c x R → Frz n h c (mk2 x)) : ∀ c x R, RSeq E F h c x R → Frz n h c (mk1 x.1 ++ mk2 x.2) := by
  rintro c x R ⟨c1, c2, R1, R2, rfl, rfl, h1, h2⟩
  exact .append (hE _ _ _ h1) (hF _ _ _ h2)
theorem flat_frz {α : Type} {mk : α → List GV} (hp : ∀ x, (mk x).all Pl = true) {d : Nat} {h : Heap} : ∀ c x R, RFl mk h c x R → Frz (d + 1) h c (mk x) := fun c x R he => RFl.frz hp he
theorem rInt_frz {d : Nat} {h : Heap} : ∀ c x R, rInt64S h c x R → Frz (d + 2) h c [fzl false 1 ci x] := RSl.frz' (RFl.good (es := 1) (mk := ci) (fun _ => rfl) (fun _ => rfl)) (flat_frz (fun _ => rfl))
theorem rGrid_frz {d : Nat} {h : Heap} : ∀ c x R, rGrid h c x R → Frz (d + 3) h c (mGrid false x) :=
  RSeq.frz (flat_frz (fun _ => rfl)) (RSl.frz' goodCellS (RSl.frz' gCell (fun c x R he => RFl.frz (mk := mCell false) (fun _ => rfl) he)))
theorem rParser_frz {d : Nat} {h : Heap} : ∀ c x R, rParser h c x R → Frz (d + 2) h c (mParser false x) :=
  RSeq.frz (flat_frz (fun _ => rfl)) (RSeq.frz rInt_frz (RSeq.frz (flat_frz (fun _ => rfl)) rInt_frz))
theorem rTerm_frz {d : Nat} {h : Heap} : ∀ c x R, rTerm h c x R → Frz (d + 3) h c (mTerm false x) :=
  RSeq.frz rGrid_frz (RSeq.frz rGrid_frz (RSeq.frz (flat_frz (fun _ => rfl)) (RSeq.frz (flat_frz (fun _ => rfl)) (RSeq.frz (flat_frz (mk := mStyle true) (fun _ => rfl)) (RSeq.frz (flat_frz (fun _ => rfl)) (RSeq.frz (flat_frz (fun _ => rfl)) (RSeq.frz (flat_frz (fun _ => rfl)) (RSeq.frz (flat_frz (fun _ => rfl)) (RSeq.frz (flat_frz (fun _ => rfl)) (RSeq.frz (flat_frz (fun _ => rfl)) (RSeq.frz (flat_frz (fun _ => rfl)) (RSeq.frz (flat_frz (fun _ => rfl)) (RSeq.frz (flat_frz (mk := mStyle true) (fun _ => rfl)) (RSeq.frz rInt_frz (RSeq.frz rParser_frz (flat_frz (mk := mFeeder true) (fun _ => rfl)))))))))))))))))
theorem finN_grid {h : Heap} {c : List GV} {x : GridT} {R : List Nat} {t : Bool} (he : rGrid h c x R) : finN (.tup [.agg c, .bool t]) h = some (.tup [.agg (mGrid false x), .bool t]) :=
  finN_of (frz_tup (.cons (frz_agg (rGrid_frz (d := 4) _ _ _ he)) (.cons frz_bool .nil)))
theorem finN_term {h : Heap} {c : List GV} {x : TermT} {R : List Nat} {t : Bool} (he : rTerm h c x R) : finN (.tup [.agg c, .bool t]) h = some (.tup [.agg (mTerm false x), .bool t]) :=
  finN_of (frz_tup (.cons (frz_agg (rTerm_frz (d := 4) _ _ _ he)) (.cons frz_bool .nil)))
theorem gridM_ok (c n : Nat) (hc : c ≤ 60) (hn : n ≤ 30) : okGrid (gridM c n) := by
  refine ⟨?_, fun x hx => ⟨?_, fun y hy => ?_⟩⟩
  · show (List.replicate n (rowM c)).length ≤ _
    rw [List.length_replicate]; omega
  · have := List.eq_of_mem_replicate hx
    rw [this]
    show (List.replicate c blankT).length ≤ _
    rw [List.length_replicate]; omega
  · exact trivial
open Classical in
theorem eqTerm_self (x : TermT) (hx : okTerm x) : NN fn.laws_eqTerm [.agg (mTerm true x), .agg (mTerm true x)] = some (.bool true) := by
  obtain ⟨⟨a1, a2⟩, ⟨b1, b2⟩, a3, a4, ⟨c1, c2, c3, c4, c5⟩, a6, a7, a8, a9, a10, a11, a12, a13, ⟨d1, d2, d3, d4, d5⟩, a15, ⟨e1, e2, e3, e4⟩, a17⟩ := x
  have := laws_eqTerm_spec a1 a1 a2 a2 b1 b1 b2 b2 a3 a3 a4 a4 c1 c1 c2 c2 c3 c3 c4 c4 c5 c5 a6 a6 a7 a7 a8 a8 a9 a9 a10 a10 a11 a11 a12 a12 a13 a13 d1 d1 d2 d2 d3 d3 d4 d4 d5 d5 a15 a15 e1 e1 e2 e2 e3 e3 e4 e4 a17 a17 hx
  rw [decide_eq_true rfl] at this
  exact this
end Go.Proofs.Ytolhjndfplfjpaa.G
