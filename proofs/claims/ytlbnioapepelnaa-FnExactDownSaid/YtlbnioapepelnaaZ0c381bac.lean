/- Rows of blanks of a style. A grid in new memory. Rows go up and down, on the program's side. Rows go up and down in a grid that lies in memory. -/
import Derived.Test.YtlbnioapepelnaaZb78d21dc
import Derived.Test.YtlbnioapepelnaaZ39b70ebb
namespace Go.Proofs.Ytlbnioapepelnaa.G
open Go.RowKit
set_option linter.unusedVariables false
set_option linter.unusedSimpArgs false
/-- One times a small number. -/
theorem math_bits_Mul64_one : ∀ n : Nat, n ≤ 60 → NN fn.math_bits_Mul64 [.int .u64 1, .int .u64 (n : Int)] = some (.tup [.int .u64 0, .int .u64 (n : Int)])
  | 0, _ => S.math_bits_Mul64.gives (k := 0) (by kernel_rfl)
  | 1, _ => S.math_bits_Mul64.gives (k := 0) (by kernel_rfl)
  | 2, _ => S.math_bits_Mul64.gives (k := 0) (by kernel_rfl)
  | 3, _ => S.math_bits_Mul64.gives (k := 0) (by kernel_rfl)
  | 4, _ => S.math_bits_Mul64.gives (k := 0) (by kernel_rfl)
  | 5, _ => S.math_bits_Mul64.gives (k := 0) (by kernel_rfl)
  | 6, _ => S.math_bits_Mul64.gives (k := 0) (by kernel_rfl)
  | 7, _ => S.math_bits_Mul64.gives (k := 0) (by kernel_rfl)
  | 8, _ => S.math_bits_Mul64.gives (k := 0) (by kernel_rfl)
  | 9, _ => S.math_bits_Mul64.gives (k := 0) (by kernel_rfl)
  | 10, _ => S.math_bits_Mul64.gives (k := 0) (by kernel_rfl)
  | 11, _ => S.math_bits_Mul64.gives (k := 0) (by kernel_rfl)
  | 12, _ => S.math_bits_Mul64.gives (k := 0) (by kernel_rfl)
  | 13, _ => S.math_bits_Mul64.gives (k := 0) (by kernel_rfl)
  | 14, _ => S.math_bits_Mul64.gives (k := 0) (by kernel_rfl)
  | 15, _ => S.math_bits_Mul64.gives (k := 0) (by kernel_rfl)
  | 16, _ => S.math_bits_Mul64.gives (k := 0) (by kernel_rfl)
  | 17, _ => S.math_bits_Mul64.gives (k := 0) (by kernel_rfl)
  | 18, _ => S.math_bits_Mul64.gives (k := 0) (by kernel_rfl)
  | 19, _ => S.math_bits_Mul64.gives (k := 0) (by kernel_rfl)
  | 20, _ => S.math_bits_Mul64.gives (k := 0) (by kernel_rfl)
  | 21, _ => S.math_bits_Mul64.gives (k := 0) (by kernel_rfl)
  | 22, _ => S.math_bits_Mul64.gives (k := 0) (by kernel_rfl)
  | 23, _ => S.math_bits_Mul64.gives (k := 0) (by kernel_rfl)
  | 24, _ => S.math_bits_Mul64.gives (k := 0) (by kernel_rfl)
  | 25, _ => S.math_bits_Mul64.gives (k := 0) (by kernel_rfl)
  | 26, _ => S.math_bits_Mul64.gives (k := 0) (by kernel_rfl)
  | 27, _ => S.math_bits_Mul64.gives (k := 0) (by kernel_rfl)
  | 28, _ => S.math_bits_Mul64.gives (k := 0) (by kernel_rfl)
  | 29, _ => S.math_bits_Mul64.gives (k := 0) (by kernel_rfl)
  | 30, _ => S.math_bits_Mul64.gives (k := 0) (by kernel_rfl)
  | 31, _ => S.math_bits_Mul64.gives (k := 0) (by kernel_rfl)
  | 32, _ => S.math_bits_Mul64.gives (k := 0) (by kernel_rfl)
  | 33, _ => S.math_bits_Mul64.gives (k := 0) (by kernel_rfl)
  | 34, _ => S.math_bits_Mul64.gives (k := 0) (by kernel_rfl)
  | 35, _ => S.math_bits_Mul64.gives (k := 0) (by kernel_rfl)
  | 36, _ => S.math_bits_Mul64.gives (k := 0) (by kernel_rfl)
  | 37, _ => S.math_bits_Mul64.gives (k := 0) (by kernel_rfl)
  | 38, _ => S.math_bits_Mul64.gives (k := 0) (by kernel_rfl)
  | 39, _ => S.math_bits_Mul64.gives (k := 0) (by kernel_rfl)
  | 40, _ => S.math_bits_Mul64.gives (k := 0) (by kernel_rfl)
  | 41, _ => S.math_bits_Mul64.gives (k := 0) (by kernel_rfl)
  | 42, _ => S.math_bits_Mul64.gives (k := 0) (by kernel_rfl)
  | 43, _ => S.math_bits_Mul64.gives (k := 0) (by kernel_rfl)
  | 44, _ => S.math_bits_Mul64.gives (k := 0) (by kernel_rfl)
  | 45, _ => S.math_bits_Mul64.gives (k := 0) (by kernel_rfl)
  | 46, _ => S.math_bits_Mul64.gives (k := 0) (by kernel_rfl)
  | 47, _ => S.math_bits_Mul64.gives (k := 0) (by kernel_rfl)
  | 48, _ => S.math_bits_Mul64.gives (k := 0) (by kernel_rfl)
  | 49, _ => S.math_bits_Mul64.gives (k := 0) (by kernel_rfl)
  | 50, _ => S.math_bits_Mul64.gives (k := 0) (by kernel_rfl)
  | 51, _ => S.math_bits_Mul64.gives (k := 0) (by kernel_rfl)
  | 52, _ => S.math_bits_Mul64.gives (k := 0) (by kernel_rfl)
  | 53, _ => S.math_bits_Mul64.gives (k := 0) (by kernel_rfl)
  | 54, _ => S.math_bits_Mul64.gives (k := 0) (by kernel_rfl)
  | 55, _ => S.math_bits_Mul64.gives (k := 0) (by kernel_rfl)
  | 56, _ => S.math_bits_Mul64.gives (k := 0) (by kernel_rfl)
  | 57, _ => S.math_bits_Mul64.gives (k := 0) (by kernel_rfl)
  | 58, _ => S.math_bits_Mul64.gives (k := 0) (by kernel_rfl)
  | 59, _ => S.math_bits_Mul64.gives (k := 0) (by kernel_rfl)
  | 60, _ => S.math_bits_Mul64.gives (k := 0) (by kernel_rfl)
  | n + 61, h => absurd h (by omega)
theorem math_bits_Mul_one (n : Nat) (hn : n ≤ 60) : NN fn.math_bits_Mul [.int .u64 1, .int .u64 (n : Int)] = some (.tup [.int .u64 0, .int .u64 (n : Int)]) := by
  apply S.math_bits_Mul.gives (k := 0)
  simp [S.math_bits_Mul.run, math_bits_Mul64_one n hn]
  exact finN_of (frz_tup (.cons frz_int (.cons frz_int .nil)))
abbrev zCell0 : List GV := [.int .i64 0, .int .i64 0, .int .i64 0, .bool false, .bool false, .bool false, .int .i64 0]
theorem fill_more {α : Type} {mk : α → List GV} {z : List GV} {es : Nat} (hm : ∀ a, (mk a).length = es) (hz : z.length = es) (x : α) (n m k : Nat) (h : m + k ≤ n) : splice (fill mk z (List.replicate n x) m) (m * es) ((List.replicate k x).flatMap mk) = fill mk z (List.replicate n x) (m + k) := by
  have e1 : (List.replicate n x).take m = List.replicate m x := by rw [List.take_replicate]; congr 1; omega
  have e2 : (List.replicate n x).take (m + k) = List.replicate m x ++ List.replicate k x := by rw [List.take_replicate, List.replicate_append_replicate]; congr 1; omega
  have l1 : ((List.replicate m x).flatMap mk).length = m * es := by rw [len_flat hm, List.length_replicate]
  have l2 : ((List.replicate k x).flatMap mk).length = k * es := by rw [len_flat hm, List.length_replicate]
  unfold fill splice
  rw [e1, e2, List.length_replicate, List.take_append_of_le_length (by omega), List.take_of_length_le (by omega), l2, ← l1, ← List.drop_drop, List.drop_left, zeros_drop hz _ _ (by omega), List.flatMap_append]
  congr 2
  omega
theorem fill_head {α : Type} {mk : α → List GV} {z : List GV} {es : Nat} (hm : ∀ a, (mk a).length = es) (x : α) (n m : Nat) (h : m ≤ n) : (fill mk z (List.replicate n x) m).take (m * es) = (List.replicate m x).flatMap mk := by
  have e1 : (List.replicate n x).take m = List.replicate m x := by rw [List.take_replicate]; congr 1; omega
  have l1 : ((List.replicate m x).flatMap mk).length = m * es := by rw [len_flat hm, List.length_replicate]
  unfold fill
  rw [e1, List.take_append_of_le_length (by omega), List.take_of_length_le (by omega)]
theorem take_rep {α : Type} {mk : α → List GV} {es : Nat} (hm : ∀ a, (mk a).length = es) (x : α) (m k : Nat) (h : k ≤ m) : ((List.replicate m x).flatMap mk).take (k * es) = (List.replicate k x).flatMap mk := by
  have e : List.replicate m x = List.replicate k x ++ List.replicate (m - k) x := by rw [List.replicate_append_replicate]; congr 1; omega
  have l1 : ((List.replicate k x).flatMap mk).length = k * es := by rw [len_flat hm, List.length_replicate]
  rw [e, List.flatMap_append, List.take_append_of_le_length (by omega), List.take_of_length_le (by omega)]
theorem cells_all (x : CellT) (k : Nat) : ((List.replicate k x).flatMap (mCell true)).all GV.isCell = true := all_flat (fun _ => rfl) _
theorem repeat_loop {Q : Type} (x : CellT) (n : Nat) (hn : n ≤ 60) : ∀ r m, n - m < r → 1 ≤ m → m ≤ n → ∀ (k : Nat) (v4 : GV) (G : GX → GV → GV → Heap → Option Q), S.slices_Repeat_impl_Cell.l9 k G r v4 (.sl 0 0 n n 7) (.int .i64 (m : Int)) [fill (mCell true) zCell0 (List.replicate n x) m] = G (.ext 0) v4 (.sl 0 0 n n 7) [(List.replicate n x).flatMap (mCell true)] := by
  intro r
  induction r with
  | zero => intro m h; omega
  | succ r ih =>
    intro m hr h1 hm k v4 G
    have fl : (fill (mCell true) zCell0 (List.replicate n x) m).length = n * 7 := by rw [fill_len (es := 7) (fun _ => rfl) rfl _ _ (by rw [List.length_replicate]; exact hm), List.length_replicate]
    by_cases h2 : m < n
    · have g1 : kbin .lss (.int .i64 (m : Int)) (.int .i64 (n : Int)) = some (.bool true) := by rw [klt, decide_eq_true h2]
      have s1 : ksl 7 (.sl 0 0 n n 7) (some (.int .i64 (m : Int))) none none = some (.sl 0 (m * 7) (n - m) (n - m) 7) := by
        have q : (m : Int) ≤ n := by omega
        simp [ksl, kslice, gslice, gopt, gint, q]
      have s2 : ksl 7 (.sl 0 0 n n 7) none (some (.int .i64 (m : Int))) none = some (.sl 0 0 m n 7) := by
        have q : (m : Int) ≤ n := by omega
        simp [ksl, kslice, gslice, gopt, gint, q]
      have kc : kcopy 7 (.sl 0 (m * 7) (n - m) (n - m) 7) (.sl 0 0 m n 7) [fill (mCell true) zCell0 (List.replicate n x) m] = some (.int .i64 ((min m (n - m) : Nat) : Int), [fill (mCell true) zCell0 (List.replicate n x) (m + min m (n - m))]) := by
        have hg : gcells [fill (mCell true) zCell0 (List.replicate n x) m] 7 (.sl 0 0 m n 7) = some (m, (List.replicate m x).flatMap (mCell true), [0]) := by
          have := fill_head (mk := mCell true) (z := zCell0) (es := 7) (fun _ => rfl) x n m hm
          unfold gcells
          simp [fl, hm, this]
        unfold kcopy
        rw [hg]
        simp only [Option.bind_some]
        rw [if_pos (cells_all x m)]
        have e1 : m * 7 + (n - m) * 7 = n * 7 := by rw [← Nat.add_mul]; congr 1; omega
        have e2 := take_rep (mk := mCell true) (es := 7) (fun _ => rfl) x m (min m (n - m)) (Nat.min_le_left _ _)
        have e3 := fill_more (mk := mCell true) (z := zCell0) (es := 7) (fun _ => rfl) rfl x n m (min m (n - m)) (by omega)
        simp only [cellsAt_if, List.getElem?_cons_zero, Option.bind_some, e1, fl, if_true, Nat.le_refl, and_self, e2, e3, List.set_cons_zero]
      have ka : kbin .add (.int .i64 (m : Int)) (.int .i64 ((min m (n - m) : Nat) : Int)) = some (.int .i64 ((m + min m (n - m) : Nat) : Int)) := by
        rw [kbin_add, wrap_id (by omega) (by omega)]; simp
      rw [S.slices_Repeat_impl_Cell.l9]
      simp [g1, s1, s2, kc, ka, -kbin_lss, -kbin_add, -Int.natCast_add]
      exact ih (m + min m (n - m)) (by omega) (by omega) (by omega) k v4 G
    · have : m = n := by omega
      subst this
      have g1 : kbin .lss (.int .i64 (m : Int)) (.int .i64 (m : Int)) = some (.bool false) := by rw [klt, decide_eq_false (by omega)]
      have e : fill (mCell true) zCell0 (List.replicate m x) m = (List.replicate m x).flatMap (mCell true) := by
        have := fill_all (mk := mCell true) (z := zCell0) (xs := List.replicate m x)
        rwa [List.length_replicate] at this
      rw [S.slices_Repeat_impl_Cell.l9]
      simp [g1, e, -kbin_lss]
theorem rNewS {α : Type} {es : Nat} {mk : α → List GV} {xs : List α} {H : Heap} {b : Nat} (h : H[b]? = some (xs.flatMap mk)) : RSl es (RFl mk) H [.sl b 0 xs.length xs.length es] xs [b] := by
  refine Or.inr ⟨b, xs.map mk, xs.map fun _ => [], rfl, by rw [h, List.flatMap_def], ?_, ?_⟩
  · clear h
    induction xs with
    | nil => exact .nil
    | cons x xs ih => exact .cons ⟨rfl, rfl⟩ ih
  · have : (xs.map fun _ => ([] : List Nat)).flatten = [] := by
      clear h
      induction xs with
      | nil => rfl
      | cons x xs ih => rw [List.map_cons, List.flatten_cons, ih]; rfl
    rw [this]
theorem slices_Repeat_spec (x : CellT) (n : Nat) (h1 : 1 ≤ n) (hn : n ≤ 60) (b : Nat) : ∃ v bl, OO fn.slices_Repeat_impl_Cell [fzl true 7 (mCell true) [x], .int .i64 (n : Int)] b = some (v, bl) ∧ ∀ H T, H.length = b → rCellS (H ++ bl ++ T) [v] (List.replicate n x) (List.range' b bl.length) := by
  have hr : rCellS [(List.replicate n x).flatMap (mCell true)] [.sl 0 0 n n 7] (List.replicate n x) [0] := by
    have := rNewS (es := 7) (mk := mCell true) (xs := List.replicate n x) (H := [(List.replicate n x).flatMap (mCell true)]) (b := 0) rfl
    rwa [List.length_replicate] at this
  obtain ⟨v, bl, f1, f2⟩ := goodCellS.fin (by omega) hr (by simp) b
  refine ⟨v, bl, S.slices_Repeat_impl_Cell.gives (k := 100) ?_, f2⟩
  have c1 : kconvI .u64 (.int .i64 1) = some (.int .u64 1) := rfl
  have c2 : kconvI .u64 (.int .i64 (n : Int)) = some (.int .u64 (n : Int)) := by
    rw [kconvI_int]; congr 2; simp [IntKind.wrap, IntKind.bits, IntKind.signed]; omega
  have c3 : kconvI .i64 (.int .u64 (n : Int)) = some (.int .i64 (n : Int)) := by rw [kconvI_int, wrap_id (by omega) (by omega)]
  have g0 : kbin .lss (.int .i64 (n : Int)) (.int .i64 0) = some (.bool false) := by rw [kbin_lss, decide_eq_false (by omega)]
  have g1 : kbin .gtr (.int .u64 (n : Int)) (.int .u64 9223372036854775807) = some (.bool false) := by rw [kbin_gtr, decide_eq_false (by omega)]
  have hk := kmake_eq (z := zCell0) (es := 7) (b := 40) (n := n) (h := []) (by omega) (by omega) rfl
  have fz0 : fill (mCell true) zCell0 (List.replicate n x) 0 = zeros zCell0 n := by rw [fill_zero, List.length_replicate]
  have kc : kcopy 7 (.sl 0 0 n n 7) (fzl true 7 (mCell true) [x]) [zeros zCell0 n] = some (.int .i64 1, [fill (mCell true) zCell0 (List.replicate n x) 1]) := by
    have hg : gcells [zeros zCell0 n] 7 (fzl true 7 (mCell true) [x]) = some (1, [x].flatMap (mCell true), []) := gcells_fzl (mk := mCell true) (es := 7) (fun _ => rfl)
    have e3 := fill_more (mk := mCell true) (z := zCell0) (es := 7) (fun _ => rfl) rfl x n 0 1 (by omega)
    rw [fz0] at e3
    simp only [Nat.zero_mul, Nat.zero_add] at e3
    unfold kcopy
    rw [hg]
    simp only [Option.bind_some]
    rw [if_pos (show ([x].flatMap (mCell true)).all GV.isCell = true from rfl)]
    have e4 : min 1 n = 1 := by omega
    have hz : (zeros zCell0 n).length = n * 7 := by rw [zeros_len']; rfl
    simp only [cellsAt_if, List.getElem?_cons_zero, Option.bind_some, Nat.zero_add, hz, if_true, Nat.le_refl, and_self, e4, List.set_cons_zero]
    rw [List.take_of_length_le (by show 7 ≤ 1 * 7; omega)]
    exact congrArg (fun x => some (GV.int .i64 1, [x])) e3
  have lp := repeat_loop (Q := GV × List (List GV)) x n hn 100 1 (by omega) (by omega) h1 100
  simp only [show ((1 : Nat) : Int) = 1 from rfl] at lp
  have g2 : kbin .gtr (.int .u64 0) (.int .u64 0) = some (.bool false) := by rw [kbin_gtr]; rfl
  simp [S.slices_Repeat_impl_Cell.run, g0, g2, c1, c2, math_bits_Mul_one n hn, g1, c3, hk, kc, lp, f1, -kbin_lss, -kbin_gtr, -kconvI_int]
theorem bors_one1 {α : Type} {es d : Nat} {mk : α → List GV} {E : Rel α} (hE : Good es d mk E) (hd : d + 1 ≤ 9) {H : Heap} {v : GV} {x : List α} {R : List Nat} (he : RSl es E H [v] x R) {n : Int} : bors H [v, .int .i64 n] = some [fzl true es mk x, .int .i64 n] := by
  obtain ⟨g, h1, h2⟩ := (RSl.good hE).lend1 hd he
  injection h2 with h2
  rw [bors_cons, h1, ← h2]; rfl
theorem gCell : Good 7 1 (mCell true) (RFl (mCell true)) := RFl.good (es := 7) (mk := mCell true) (fun _ => rfl) (fun _ => rfl)
abbrev styC (s : StyT) : List GV := [.int .i64 s.1, .int .i64 s.2.1, .bool s.2.2.1, .bool s.2.2.2.1, .bool s.2.2.2.2]
theorem blank_frz (s : StyT) (h : Heap) : finN (.agg (mCell true (blankS s))) h = some (.agg (mCell true (blankS s))) := finN_of (frz_agg (.cons frz_int (.cons frz_int (.cons frz_int (.cons frz_bool (.cons frz_bool (.cons frz_bool (.cons frz_int .nil))))))))
theorem impl_blank_spec (s : StyT) : NN fn.impl_blank [styG s] = some (.agg (mCell true (blankS s))) := by
  apply S.impl_blank.gives (k := 0)
  have := blank_frz s
  simp only [mCell, blankS] at this
  simp [S.impl_blank.run, gfill, this, blankS]
theorem spec_l4Blank_spec (s : StyT) : NN fn.spec_l4Blank [styG s] = some (.agg (mCell true (blankS s))) := by
  apply S.spec_l4Blank.gives (k := 0)
  have := blank_frz s
  simp only [mCell, blankS] at this
  simp [S.spec_l4Blank.run, gfill, this, blankS]
theorem impl_Blank_spec (s : StyT) (hs : styB s = true) (n : Nat) (h1 : 1 ≤ n) (hn : n ≤ 60) (b : Nat) : ∃ v bl, OO fn.impl_Blank [.int .i64 (n : Int), styG s] b = some (v, bl) ∧ ∀ H T, H.length = b → rCellS (H ++ bl ++ T) [v] (List.replicate n (blankS s)) (List.range' b bl.length) := by
  obtain ⟨Z, hZ⟩ : ∃ Z, styC s = Z := ⟨_, rfl⟩
  have hZL : Z.length = 5 := by rw [← hZ]; rfl
  have ks := k_sty s
  have kb := impl_blank_spec s
  have bZ : ∀ H : Heap, bors H [.agg Z] = some [.agg Z] := fun H => by rw [← hZ]; simp
  rw [show styG s = .agg Z by rw [← hZ]] at ks kb ⊢
  obtain ⟨H0, hH0⟩ : ∃ H0 : Heap, [Z, mCell true (blankS s)] = H0 := ⟨_, rfl⟩
  have hr : rCellS H0 [.sl 1 0 1 1 7] [blankS s] [1] := rNewS (es := 7) (mk := mCell true) (xs := [blankS s]) (H := H0) (b := 1) (by rw [← hH0]; rfl)
  have hbors : bors H0 [.sl 1 0 1 1 7, .int .i64 (n : Int)] = some [fzl true 7 (mCell true) [blankS s], .int .i64 (n : Int)] := bors_one1 gCell (by omega) hr
  obtain ⟨v, bl, e1, e2⟩ := slices_Repeat_spec (blankS s) n h1 hn H0.length
  have t1 : kF false HH fn.slices_Repeat_impl_Cell [.sl 1 0 1 1 7, .int .i64 (n : Int)] H0 = some (v, H0 ++ bl) := by
    rw [kF_OO, hbors]; simp [e1]
  have r1 : rCellS (H0 ++ bl) [v] (List.replicate n (blankS s)) (List.range' H0.length bl.length) := by simpa using e2 H0 [] rfl
  obtain ⟨v', bl', f1, f2⟩ := goodCellS.fin (by omega) r1 List.nodup_range' b
  refine ⟨v', bl', S.impl_Blank.gives (k := 0) ?_, f2⟩
  have hb : ∀ {Q : Type} (K : GV → Heap → Option Q), kbox (.agg Z) [] K = K (.ptr 0 0 5) [Z] := fun K => by rw [kbox_agg, hZL]; rfl
  have a0 := kloadA_at (n := 5) (H := [Z]) (p := 0) (c := Z) rfl hZL
  have hi := k_in (n : Int) 1 60 [Z]
  rw [inB_iff.2 (by omega)] at hi
  have ks' := ks [Z]
  rw [hs] at ks'
  have kb' : kN NN fn.impl_blank [.agg Z] [Z] = some (.agg (mCell true (blankS s))) := kN_at (bZ _) kb
  have gf : gfill (fun i => some (i * 7, 7)) (zeros zCell0 1) [(0, .agg (mCell true (blankS s)))] = some (mCell true (blankS s)) := by simp [gfill, zeros]
  have hk : ∀ {Q : Type} (K : GV → Heap → Option Q), kbs 1 7 (mCell true (blankS s)) [Z] K = K (.sl 1 0 1 1 7) H0 := fun K => by rw [← hH0]; rfl
  unfold S.impl_Blank.run S.impl_Blank.n0
  rw [hb]
  obtain ⟨B, hB⟩ : ∃ B, mCell true (blankS s) = B := ⟨_, rfl⟩
  rw [hB] at kb' gf
  simp only [hB] at hk
  simp [hi, a0, ks', kb', gf, hk, t1, f1, -kN_eq, -kF_OO, -kloadA_ptr]
/-- A row of blanks, put together one by one. -/
theorem spec_l4Row_spec (s : StyT) (n : Nat) (hn : n ≤ 60) (b : Nat) : ∃ v bl, OO fn.spec_l4Row [.int .i64 (n : Int), styG s] b = some (v, bl) ∧ ∀ H T, H.length = b → rCellS (H ++ bl ++ T) [v] (List.replicate n (blankS s)) (List.range' b bl.length) := by
  obtain ⟨S0, hS0⟩ : ∃ S0 : List GV, [.int .i64 s.1, .int .i64 s.2.1, .bool s.2.2.1, .bool s.2.2.2.1, .bool s.2.2.2.2] = S0 := ⟨_, rfl⟩
  have hSL : S0.length = 5 := by rw [← hS0]; rfl
  have key := loop_inv (n := n) (T := GV × Heap) (Inv := fun j st => st.2[0]? = some S0 ∧ ∃ R, rCellS st.2 [st.1] (List.replicate j (blankS s)) R ∧ R.Nodup ∧ ∀ i ∈ R, 1 ≤ i) (f := fun r j st => fun (G : GX → GV → GV → Heap → Option (GV × List (List GV))) => S.spec_l4Row.l6 61 G r (.int .i64 (n : Int)) (.ptr 0 0 5) .nils st.1 (.int .i64 (j : Int)) st.2) (A := fun st => fun G => G (.ext 0) .nils st.1 st.2) (s := (.emp, [S0])) ?_ ?_ ⟨rfl, [], Or.inl ⟨rfl, rfl, Or.inl rfl⟩, List.nodup_nil, fun i hi => (by cases hi)⟩ (m := 61) (by omega)
  · obtain ⟨⟨v, H⟩, a1, I0, R, hr, nd, hlo⟩ := key
    obtain ⟨v', bl', f1, f2⟩ := goodCellS.fin (by omega) hr nd b
    refine ⟨v', bl', S.spec_l4Row.gives (k := 61) ?_, f2⟩
    have a1' := fun G => congrFun a1 G
    simp only [show ((0 : Nat) : Int) = 0 from rfl] at a1'
    have hb : ∀ {Q : Type} (K : GV → Heap → Option Q), kbox (styG s) [] K = K (.ptr 0 0 5) [S0] := fun K => by rw [kbox_agg, ← hS0]; rfl
    simp [S.spec_l4Row.run, hb, a1', f1, -kbox_agg]
  · rintro j r ⟨v, H⟩ hj ⟨I0, R, hr, nd, hlo⟩
    simp only at I0 hr
    have kj := kadd1 (n := j) (by omega)
    have g1 : kbin .lss (.int .i64 (j : Int)) (.int .i64 (n : Int)) = some (.bool true) := by rw [klt, decide_eq_true hj]
    have lS := kloadA_at (n := 5) I0 hSL
    have hx : RFl (mCell true) (H ++ [mCell true (blankS s)]) (mCell true (blankS s)) (blankS s) [] := ⟨rfl, rfl⟩
    have hpl := (List.getElem?_eq_some_iff.1 I0).1
    obtain ⟨v', H4, R', a1, a2, a3, a4, a5, a6, a7⟩ := app_sl gCell (by omega) (z := zCell0) (b := 40) rfl (by omega) (H := H ++ [mCell true (blankS s)]) (goodCellS.grow hr) nd (by rw [List.length_replicate]; omega) hx List.nodup_nil (fun i hi => (by cases hi)) (q := H.length) (by simp)
    rw [← List.replicate_succ'] at a2
    refine ⟨(v', H4), funext fun G => ?_, a5.blk ((Fr.app (R := []) (t := [mCell true (blankS s)])).blk I0 no_nil) (fun h => by have := hlo 0 h; omega), R', a2, a3, fun i hi => ?_⟩
    · have sS : kN NN fn.spec_l4Blank [.agg S0] H = some (.agg (mCell true (blankS s))) := by rw [← hS0]; exact kN_at (xs := [styG s]) (by simp) (spec_l4Blank_spec s)
      have gf : gfill (fun i => some (i * 7, 7)) (zeros zCell0 1) [(0, .agg (mCell true (blankS s)))] = some (mCell true (blankS s)) := by simp [gfill, zeros]
      simp only [S.spec_l4Row.l6]
      simp [g1, lS, sS, gf, kbs_at, a1, kj, -kN_eq, -kloadA_ptr, -kbin_lss, -kbin_add, -Int.natCast_add]
    · rcases a4 i hi with h | h | h
      · exact hlo i h
      · cases h
      · rw [h]; simp
  · rintro r ⟨v, H⟩ _
    funext G
    have g1 : kbin .lss (.int .i64 (n : Int)) (.int .i64 (n : Int)) = some (.bool false) := by rw [klt, decide_eq_false (by omega)]
    simp only [S.spec_l4Row.l6]
    simp [g1, -kbin_lss]
end Go.Proofs.Ytlbnioapepelnaa.G

namespace Go.Proofs.Ytlbnioapepelnaa.G
open Go.RowKit
set_option linter.unusedVariables false
set_option linter.unusedSimpArgs false
theorem slices_Clone_cell_spec (xs : List CellT) (hm : xs.length ≤ 4194304) (b : Nat) (h0 : xs.length ≠ 0) : OO fn.slices_Clone_impl_Cell [fzl true 7 (mCell true) xs] b = some (.sl b 0 xs.length xs.length 7, [xs.flatMap (mCell true)]) := by
  apply S.slices_Clone_impl_Cell.gives (k := 0)
  have hg : gbinop PP .eql 222 (.tmp 3) (.const (.slice none 0 0)) (fzl true 7 (mCell true) xs) .nils = some (.bool false) := by
    cases xs with
    | nil => exact absurd rfl h0
    | cons x xs => kernel_rfl
  simp [S.slices_Clone_impl_Cell.run, hg, kapp_emp (mk := mCell true) (es := 7) (b := 40) (z := zCell0) (fun _ => rfl) (fun _ => rfl) rfl (by omega) hm, h0]
  have hl : (xs.flatMap (mCell true)).length = xs.length * 7 := len_flat (mk := mCell true) (es := 7) (fun _ => rfl) xs
  rw [finO_sl_pl (cs := xs.flatMap (mCell true)) (by simp) hl (Nat.le_refl _) (by rw [List.take_of_length_le (by omega)]; exact all_flat (fun _ => rfl) xs)]
  rw [List.take_of_length_le (by omega)]
theorem clone_row (xs : List CellT) (hm : xs.length ≤ 4194304) (h0 : xs.length ≠ 0) (H : Heap) : ∃ v R H', kF true HH fn.slices_Clone_impl_Cell [fzl true 7 (mCell true) xs] H = some (v, H') ∧ rCellS H' [v] xs R ∧ R.Nodup ∧ Bd R H.length H'.length ∧ Fr [] H H' := by
  refine ⟨.sl H.length 0 xs.length xs.length 7, [H.length], H ++ [xs.flatMap (mCell true)], ?_, rNewS (by simp), by simp, fun i hi => by rw [List.mem_singleton] at hi; simp; omega, .app⟩
  unfold kF
  have hb : bors H [fzl true 7 (mCell true) xs] = some [fzl true 7 (mCell true) xs] := by simp
  rw [hb]
  have he : emptyArg [fzl true 7 (mCell true) xs] = false := by
    cases xs with
    | nil => exact absurd rfl h0
    | cons x xs => rfl
  simp only [Option.bind_some, he, Bool.and_false, cond_false]
  have := slices_Clone_cell_spec xs hm H.length h0
  have h2 : (HH fn.slices_Clone_impl_Cell [fzl true 7 (mCell true) xs] []).bind (fun r => (ownOk r H.length).bind fun q => some (q.1, H ++ q.2)) = ((HH fn.slices_Clone_impl_Cell [fzl true 7 (mCell true) xs] []).bind fun r => ownOk r H.length).bind fun q => some (q.1, H ++ q.2) := by rw [Option.bind_assoc]
  rw [h2]
  show (OO fn.slices_Clone_impl_Cell [fzl true 7 (mCell true) xs] H.length).bind _ = _
  rw [this]
  rfl
/-- A copy that grows in block 2. -/
def GC (M : List GV) (c : Int) (rows : List (List CellT)) (H : Heap) : Prop := H[0]? = some M ∧ H[1]? = some [.int .i64 0, .nils] ∧ ∃ vR R, H[2]? = some [.int .i64 c, vR] ∧ rCellSS H [vR] rows R ∧ R.Nodup ∧ ∀ i ∈ R, 3 ≤ i
theorem GC.step {M : List GV} {c : Int} {rows : List (List CellT)} {H H1 : Heap} (h : GC M c rows H) (hj : rows.length ≤ 4194304) {v : GV} {row : List CellT} {Rx : List Nat} (r1 : rCellS H1 [v] row Rx) (n1 : Rx.Nodup) (b1 : Bd Rx H.length H1.length) (f1 : Fr [] H H1) :
    ∃ vR v' H4 H5, kload1 H (.ptr 2 1 2) = some vR ∧ (∀ i ∈ kblk vR, 3 ≤ i ∧ i < H.length) ∧ v.cells = [v] ∧ kapp [.nils] 1 24 vR (.sl H1.length 0 1 1 1) (H1 ++ [[v]]) = some (v', H4) ∧ kstore 1 H4 (.ptr 2 1 2) v' = some H5 ∧ GC M c (rows ++ [row]) H5 := by
  obtain ⟨I0, I1, vR, R, I2, hr, nd, hlo⟩ := h
  have q := kload1_at (o := 1) (tot := 2) I2 rfl
  have hm := goodCellSS.mem hr
  have hl := (List.getElem?_eq_some_iff.1 I2).1
  have vc := cell_of r1
  have hl1 := f1.1
  obtain ⟨v', H4, H5, R', a1, a2, a3, a4, a5, a6, a7⟩ := push goodCellS (by omega) (z := [.nils]) (b := 24) rfl (by omega) (goodCellSS.keep hr f1 (fun _ _ => no_nil)) nd (by omega) r1 n1 (fun i hi h => by have := b1 i hi; have := hm i h; omega) (p := 2) (o := 1) (n := 2) (f1.blk I2 no_nil) rfl (by omega) (fun h => by have := hlo 2 h; omega) (fun h => by have := b1 2 h; omega)
  have hno : ∀ i, i < 2 → i ∉ 2 :: R := fun i hi h => by
    rcases List.mem_cons.1 h with h | h
    · omega
    · have := hlo i h; omega
  refine ⟨vR, v', H4, H5, q, fun i hi => ?_, vc.1, a1, a2, a7.blk (f1.blk I0 no_nil) (hno 0 (by omega)), a7.blk (f1.blk I1 no_nil) (hno 1 (by omega)), v', R', a6, a3, a4, fun i hi => ?_⟩
  · have hin : i ∈ R := by
      rcases hr with ⟨_, _, hc⟩ | ⟨b, css, Rs, hv, _, _, rfl⟩
      · rcases hc with hc | hc <;> (injection hc with hc; subst hc; cases hi)
      · injection hv with hv
        subst hv
        simp only [kblk, List.mem_singleton] at hi
        rw [hi]; exact List.mem_cons_self ..
    exact ⟨hlo i hin, hm i hin⟩
  · rcases a5 i hi with h | h | h
    · exact hlo i h
    · have := b1 i h; omega
    · omega
theorem GC.fin {M : List GV} {c : Int} {rows : List (List CellT)} {H : Heap} (h : GC M c rows H) : ∃ vR H', kloadA 2 H (.ptr 2 0 2) = some (.agg [.int .i64 c, vR]) ∧ kstore 2 H (.ptr 1 0 2) (.agg [.int .i64 c, vR]) = some H' ∧ kloadA 2 H' (.ptr 1 0 2) = some (.agg [.int .i64 c, vR]) ∧ ∃ R, rGrid H' [.int .i64 c, vR] (c, rows) R ∧ R.Nodup := by
  obtain ⟨I0, I1, vR, R, I2, hr, nd, hlo⟩ := h
  have vc := cell_of hr
  have hl := (List.getElem?_eq_some_iff.1 I1).1
  have k2 := kstoreA_at (n := 2) I1 rfl (c' := [.int .i64 c, vR]) rfl (by simp [vc.2])
  have f : Fr [1] H (H.set 1 [.int .i64 c, vR]) := .set (by simp)
  exact ⟨vR, _, kloadA_at (n := 2) I2 rfl, k2, kloadA_at (n := 2) (by rw [List.getElem?_set_self hl]) rfl, R, ⟨[.int .i64 c], [vR], [], R, rfl, rfl, ⟨rfl, rfl⟩, goodCellSS.keep hr f (fun i hi h => by rw [List.mem_singleton] at h; have := hlo i hi; omega)⟩, nd⟩
theorem take_snoc' {α : Type} {l : List α} {j : Nat} (hj : j < l.length) : l.take (j + 1) = l.take j ++ [l[j]] := by rw [List.take_add_one, List.getElem?_eq_getElem hj]; rfl
theorem impl_Grid_copied_spec (g : GridT) (hn : g.2.length ≤ 1048576) (hz : ∀ row ∈ g.2, row.length ≠ 0 ∧ row.length ≤ 1048576) (b : Nat) : ∃ c bl, OO fn.impl_Grid_copied [.agg (mGrid true g)] b = some (.agg c, bl) ∧ ∀ H T, H.length = b → rGrid (H ++ bl ++ T) c g (List.range' b bl.length) := by
  obtain ⟨c, rows⟩ := g
  simp only at hn hz
  have hM0 : (mGrid true (c, rows))[0]? = some (.int .i64 c) := rfl
  have hM1 : (mGrid true (c, rows))[1]? = some (fzl true 1 (mCellS true) rows) := rfl
  obtain ⟨M, hM⟩ : ∃ M, mGrid true (c, rows) = M := ⟨_, rfl⟩
  have hML : M.length = 2 := by rw [← hM]; rfl
  rw [hM] at hM0 hM1 ⊢
  refine Exists.elim (loop_inv (n := rows.length) (T := Heap) (Inv := fun j H => GC M c (rows.take j) H) (f := fun r j H => fun (G : GX → GV → GV → Heap → Option (GV × List (List GV))) => S.impl_Grid_copied.l6 (rows.length + 1) G r (.ptr 1 0 2) (.ptr 2 0 2) (fzl true 1 (mCellS true) rows) (.int .i64 (rows.length : Int)) (.int .i64 (j : Int)) H) (A := fun H => fun G => G (.ext 0) (.ptr 1 0 2) (.ptr 2 0 2) H) (s := [M, [.int .i64 0, .nils], [.int .i64 c, .nils]]) ?_ ?_ ⟨rfl, rfl, .nils, [], rfl, Or.inl ⟨rfl, rfl, Or.inr rfl⟩, List.nodup_nil, fun i hi => (by cases hi)⟩ (m := rows.length + 1) (by omega)) (fun H h => ?_)
  · rintro j r H hj hi
    have kj := kadd1 (n := j) (by omega)
    have g1 : kbin .lss (.int .i64 (j : Int)) (.int .i64 (rows.length : Int)) = some (.bool true) := by rw [klt, decide_eq_true hj]
    have hrow := hz rows[j] (List.getElem_mem hj)
    obtain ⟨v, Rx, H1, t1, r1, n1, b1, f1⟩ := clone_row rows[j] (by omega) hrow.1 H
    obtain ⟨vR, v', H4, H5, e1, _, e2, e3, e4, e5⟩ := hi.step (by rw [List.length_take]; omega) r1 n1 b1 f1
    refine ⟨H5, funext fun G => ?_, by rw [take_snoc' hj]; exact e5⟩
    have ke : kload1 H (elp true (mCellS true) rows j) = some (fzl true 7 (mCell true) rows[j]) := by rw [kload1_elp (fun a => fzl true 7 (mCell true) a) (fun _ => rfl), get_of hj]; rfl
    generalize fzl true 7 (mCell true) rows[j] = Z at *
    simp only [S.impl_Grid_copied.l6]
    simp [g1, kia1 hj, ke, e1, t1, gfill, zeros, e2, kbs_at, e3, e4, kj, -kF_OO, -kload1_ptr, -kload1_CellSS, -kstore_ptr, -kbin_lss, -kbin_add, -Int.natCast_add]
  · rintro r H _
    funext G
    have g1 : kbin .lss (.int .i64 (rows.length : Int)) (.int .i64 (rows.length : Int)) = some (.bool false) := by rw [klt, decide_eq_false (by omega)]
    simp only [S.impl_Grid_copied.l6]
    simp [g1, -kbin_lss]
  · obtain ⟨k0, hi⟩ := h
    rw [List.take_length] at hi
    obtain ⟨vR, H', k1, k2, k3, R, hg, nd⟩ := hi.fin
    obtain ⟨g, bl, f1, f2⟩ := goodGrid.finS (by omega) hg nd b
    have a1 := fun G => congrFun k0 G
    simp only [show ((0 : Nat) : Int) = 0 from rfl] at a1
    refine ⟨g, bl, S.impl_Grid_copied.gives (k := rows.length + 1) ?_, f2⟩
    have hbox : ∀ {Q : Type} (K : GV → Heap → Option Q), kbox (.agg M) [] K = K (.ptr 0 0 2) [M] := fun K => by rw [kbox_agg, hML]; rfl
    have hal : ∀ {Q : Type} (K : GV → Heap → Option Q), kalloc [.int .i64 0, .nils] [M] K = K (.ptr 1 0 2) [M, [.int .i64 0, .nils]] := fun K => rfl
    have hal2 : ∀ {Q : Type} (K : GV → Heap → Option Q), kalloc [.int .i64 0, .nils] [M, [.int .i64 0, .nils]] K = K (.ptr 2 0 2) [M, [.int .i64 0, .nils], [.int .i64 0, .nils]] := fun K => rfl
    have q0 := kload1_at (o := 0) (tot := 2) (h := [M, [.int .i64 0, .nils]]) (b := 0) (cells := M) rfl hML
    rw [hM0] at q0
    have q1 := kload1_at (o := 1) (tot := 2) (h := [M, [.int .i64 0, .nils], [.int .i64 c, .nils]]) (b := 0) (cells := M) rfl hML
    rw [hM1] at q1
    have s0 : kstore 2 [M, [.int .i64 0, .nils], [.int .i64 0, .nils]] (.ptr 2 0 2) (.agg [.int .i64 c, .nils]) = some [M, [.int .i64 0, .nils], [.int .i64 c, .nils]] := by simp
    have lr : klen (fzl true 1 (mCellS true) rows) = some (.int .i64 (rows.length : Int)) := klen_fzl
    unfold S.impl_Grid_copied.run S.impl_Grid_copied.n0
    rw [hbox, hal]
    simp [q0, gfill, hal2, s0, q1, lr, a1, k1, k2, k3, f1, -kalloc_eq, -kload1_ptr, -kloadA_ptr, -kstore_ptr]
theorem copyC {xs : List CellT} (hm : xs.length ≤ 1048576) (H : Heap) : ∃ v H' R, kapp zCell0 7 40 .emp (fzl true 7 (mCell true) xs) H = some (v, H') ∧ rCellS H' [v] xs R ∧ R.Nodup ∧ Bd R H.length H'.length ∧ Fr [] H H' := by
  have hk := kapp_emp (mk := mCell true) (es := 7) (b := 40) (z := zCell0) (t := true) (xs := xs) (h := H) (fun _ => rfl) (fun _ => rfl) rfl (by omega) (by omega)
  by_cases h0 : xs.length = 0
  · rw [if_pos h0] at hk
    have hz := List.eq_nil_of_length_eq_zero h0
    subst hz
    exact ⟨_, _, [], hk, Or.inl ⟨rfl, rfl, Or.inl rfl⟩, List.nodup_nil, fun i hi => (by cases hi), .refl⟩
  · rw [if_neg h0] at hk
    exact ⟨_, _, _, hk, rNewS (by simp), by simp, fun i hi => by rw [List.mem_singleton] at hi; simp; omega, .app⟩
theorem spec_l5Copy_spec (g : GridT) (hn : g.2.length ≤ 1048576) (hz : ∀ row ∈ g.2, row.length ≤ 1048576) (b : Nat) : ∃ c bl, OO fn.spec_l5Copy [.agg (mGrid true g)] b = some (.agg c, bl) ∧ ∀ H T, H.length = b → rGrid (H ++ bl ++ T) c g (List.range' b bl.length) := by
  obtain ⟨c, rows⟩ := g
  simp only at hn hz
  have hM0 : (mGrid true (c, rows))[0]? = some (.int .i64 c) := rfl
  have hM1 : (mGrid true (c, rows))[1]? = some (fzl true 1 (mCellS true) rows) := rfl
  obtain ⟨M, hM⟩ : ∃ M, mGrid true (c, rows) = M := ⟨_, rfl⟩
  have hML : M.length = 2 := by rw [← hM]; rfl
  rw [hM] at hM0 hM1 ⊢
  have lr : klen (fzl true 1 (mCellS true) rows) = some (.int .i64 (rows.length : Int)) := klen_fzl
  refine Exists.elim (loop_inv (n := rows.length) (T := Heap) (Inv := fun j H => GC M c (rows.take j) H) (f := fun r j H => fun (G : GX → GV → GV → Heap → Option (GV × List (List GV))) => S.spec_l5Copy.l6 (rows.length + 1) G r (.ptr 0 0 2) (.ptr 1 0 2) (.ptr 2 0 2) (.int .i64 (j : Int)) H) (A := fun H => fun G => G (.ext 0) (.ptr 1 0 2) (.ptr 2 0 2) H) (s := [M, [.int .i64 0, .nils], [.int .i64 c, .nils]]) ?_ ?_ ⟨rfl, rfl, .nils, [], rfl, Or.inl ⟨rfl, rfl, Or.inr rfl⟩, List.nodup_nil, fun i hi => (by cases hi)⟩ (m := rows.length + 1) (by omega)) (fun H h => ?_)
  · rintro j r H hj hi
    have kj := kadd1 (n := j) (by omega)
    have g1 : kbin .lss (.int .i64 (j : Int)) (.int .i64 (rows.length : Int)) = some (.bool true) := by rw [klt, decide_eq_true hj]
    have hrow := hz rows[j] (List.getElem_mem hj)
    obtain ⟨v, H1, Rx, t1, r1, n1, b1, f1⟩ := copyC hrow H
    obtain ⟨vR, v', H4, H5, e1, eb, e2, e3, e4, e5⟩ := hi.step (by rw [List.length_take]; omega) r1 n1 b1 f1
    have I0 := hi.1
    have l1 := kload1_at (o := 1) (tot := 2) I0 hML
    rw [hM1] at l1
    refine ⟨H5, funext fun G => ?_, by rw [take_snoc' hj]; exact e5⟩
    have ke : kload1 H (elp true (mCellS true) rows j) = some (fzl true 7 (mCell true) rows[j]) := by rw [kload1_elp (fun a => fzl true 7 (mCell true) a) (fun _ => rfl), get_of hj]; rfl
    have kb : kblk (fzl true 7 (mCell true) rows[j]) = [] := kblk_fzl
    have h3 := (List.getElem?_eq_some_iff.1 hi.2.2.choose_spec.choose_spec.1).1
    have hl1 := f1.1
    have y0 : ¬ (H.length ≤ 2) := by omega
    have y1 : ¬ (H.length ≤ 0) := by omega
    have y2 : ¬ (H1.length ≤ 2) := by omega
    have y3 : H ≠ [] := fun h => by rw [h] at h3; simp at h3
    generalize fzl true 7 (mCell true) rows[j] = Z at *
    simp only [S.spec_l5Copy.l6]
    simp [g1, l1, lr, kia1 hj, ke, e1, t1, gfill, zeros, e2, kbs_at, e3, e4, kj, -kF_OO, -kload1_ptr, -kload1_CellSS, -kstore_ptr, -kbin_lss, -kbin_add, -Int.natCast_add]
    simp [chk, meets, touches, kb, y0, y1, y2, y3]
  · rintro r H hi
    funext G
    have I0 := hi.1
    have l1 := kload1_at (o := 1) (tot := 2) I0 hML
    rw [hM1] at l1
    have g1 : kbin .lss (.int .i64 (rows.length : Int)) (.int .i64 (rows.length : Int)) = some (.bool false) := by rw [klt, decide_eq_false (by omega)]
    simp only [S.spec_l5Copy.l6]
    simp [g1, l1, lr, -kbin_lss, -kload1_ptr]
  · obtain ⟨k0, hi⟩ := h
    rw [List.take_length] at hi
    obtain ⟨vR, H', k1, k2, k3, R, hg, nd⟩ := hi.fin
    obtain ⟨g, bl, f1, f2⟩ := goodGrid.finS (by omega) hg nd b
    have a1 := fun G => congrFun k0 G
    simp only [show ((0 : Nat) : Int) = 0 from rfl] at a1
    refine ⟨g, bl, S.spec_l5Copy.gives (k := rows.length + 1) ?_, f2⟩
    have hbox : ∀ {Q : Type} (K : GV → Heap → Option Q), kbox (.agg M) [] K = K (.ptr 0 0 2) [M] := fun K => by rw [kbox_agg, hML]; rfl
    have hal : ∀ {Q : Type} (K : GV → Heap → Option Q), kalloc [.int .i64 0, .nils] [M] K = K (.ptr 1 0 2) [M, [.int .i64 0, .nils]] := fun K => rfl
    have hal2 : ∀ {Q : Type} (K : GV → Heap → Option Q), kalloc [.int .i64 0, .nils] [M, [.int .i64 0, .nils]] K = K (.ptr 2 0 2) [M, [.int .i64 0, .nils], [.int .i64 0, .nils]] := fun K => rfl
    have q0 := kload1_at (o := 0) (tot := 2) (h := [M, [.int .i64 0, .nils]]) (b := 0) (cells := M) rfl hML
    rw [hM0] at q0
    have s0 : kstore 2 [M, [.int .i64 0, .nils], [.int .i64 0, .nils]] (.ptr 2 0 2) (.agg [.int .i64 c, .nils]) = some [M, [.int .i64 0, .nils], [.int .i64 c, .nils]] := by simp
    unfold S.spec_l5Copy.run S.spec_l5Copy.n0
    rw [hbox, hal]
    simp [q0, gfill, hal2, s0, a1, k1, k2, k3, f1, -kalloc_eq, -kload1_ptr, -kloadA_ptr, -kstore_ptr]
end Go.Proofs.Ytlbnioapepelnaa.G

namespace Go.Proofs.Ytlbnioapepelnaa.G
open Go.RowKit
set_option linter.unusedVariables false
set_option linter.unusedSimpArgs false

theorem bors_st (s : StyT) (H : Heap) (gs zs : List GV) (h : bors H gs = some zs) : bors H (styG s :: gs) = some (styG s :: zs) := by rw [bors_cons, h]; simp
theorem bors_i (n : Int) (H : Heap) (gs zs : List GV) (h : bors H gs = some zs) : bors H (.int .i64 n :: gs) = some (.int .i64 n :: zs) := by rw [bors_cons, h]; simp
theorem impl_Grid_blanks_spec (g : GridT) (hc : 1 ≤ g.1 ∧ g.1 ≤ 60) (s : StyT) (hs : styB s = true) (n : Nat) (hn : n ≤ 1000) (b : Nat) : ∃ v bl, OO fn.impl_Grid_blanks [.agg (mGrid true g), .int .i64 (n : Int), styG s] b = some (v, bl) ∧ ∀ H T, H.length = b → rCellSS (H ++ bl ++ T) [v] (blanksM g.1 s n) (List.range' b bl.length) := by
  have hM0 : (mGrid true g)[0]? = some (.int .i64 g.1) := rfl
  obtain ⟨M, hM⟩ : ∃ M, mGrid true g = M := ⟨_, rfl⟩
  have hML : M.length = 2 := by rw [← hM]; rfl
  rw [hM] at hM0 ⊢
  obtain ⟨cn, hcn⟩ : ∃ cn : Nat, g.1 = (cn : Int) := ⟨g.1.toNat, by omega⟩
  have bl := fun H => fresh_one goodCellS (f := fn.impl_Blank) (args := [.int .i64 (cn : Int), styG s]) (xs := [.int .i64 (cn : Int), styG s]) (H := H) (bors_i _ _ _ _ (bors_st _ _ _ _ rfl)) (impl_Blank_spec s hs cn (by omega) (by omega) H.length)
  obtain ⟨Z, hZ⟩ : ∃ Z, styC s = Z := ⟨_, rfl⟩
  have hZL : Z.length = 5 := by rw [← hZ]; rfl
  have hsg : styG s = .agg Z := by rw [← hZ]
  rw [hsg]
  simp only [hsg] at bl
  rw [hcn] at hM0
  have hbl : blanksM g.1 s n = List.replicate n (List.replicate cn (blankS s)) := by unfold blanksM; rw [hcn]; rfl
  rw [hbl]
  refine Exists.elim (loop_inv (n := n) (T := GV × Heap) (Inv := fun j x => x.2[0]? = some M ∧ x.2[1]? = some Z ∧ ∃ R, rCellSS x.2 [x.1] (List.replicate j (List.replicate cn (blankS s))) R ∧ R.Nodup ∧ ∀ i ∈ R, 2 ≤ i)
    (f := fun r j x => fun (G : GX → GV → GV → Heap → Option (GV × List (List GV))) => S.impl_Grid_blanks.l6 1001 G r (.ptr 0 0 2) (.ptr 1 0 5) .nils x.1 (.int .i64 (n : Int)) (.int .i64 (j : Int)) x.2) (A := fun x => fun G => G (.ext 0) .nils x.1 x.2) (s := (.emp, [M, Z])) ?_ ?_ ⟨rfl, rfl, [], Or.inl ⟨rfl, rfl, Or.inl rfl⟩, List.nodup_nil, fun i hi => (by cases hi)⟩ (m := 1001) (by omega)) ?_
  · rintro j r ⟨v, H⟩ hj ⟨I0, I1, R, hr, nd, hlo⟩
    try simp only at I0 I1 hr
    have kj := kadd1 (n := j) (by omega)
    have g1 : kbin .lss (.int .i64 (j : Int)) (.int .i64 (n : Int)) = some (.bool true) := by rw [klt, decide_eq_true hj]
    have q0 := kload1_at (o := 0) (tot := 2) I0 hML
    rw [hM0] at q0
    have q1 := kloadA_at (n := 5) I1 hZL
    obtain ⟨w, Rx, H1, t1, r1, n1, b1, f1, l1⟩ := bl H
    have hm := goodCellSS.mem hr
    have vc := cell_of r1
    have hl1 := (List.getElem?_eq_some_iff.1 I1).1
    obtain ⟨v', H4, R', a1, a2, a3, a4, a5, a6, a7⟩ := app_sl goodCellS (by omega) (z := [.nils]) (b := 24) rfl (by omega) (H := H1 ++ [[w]]) (goodCellSS.grow (goodCellSS.keep hr f1 (fun _ _ => no_nil))) nd (by rw [List.length_replicate]; omega) (goodCellS.grow r1) n1 (fun i hi h => by have := b1 i hi; have := hm i h; omega) (q := H1.length) (by simp)
    have f14 : Fr R H H4 := (f1.sub (fun _ h => by cases h)).trans ((Fr.app (t := [[w]])).trans a5)
    refine ⟨(v', H4), funext fun G => ?_, f14.blk I0 (fun h => by have := hlo 0 h; omega), f14.blk I1 (fun h => by have := hlo 1 h; omega), R', by rw [List.replicate_succ']; exact a2, a3, fun i hi => ?_⟩
    · simp only [S.impl_Grid_blanks.l6]
      simp [g1, q0, q1, t1, gfill, zeros, vc.1, kbs_at, a1, kj, -kF_OO, -kload1_ptr, -kloadA_ptr, -kbin_lss, -kbin_add, -Int.natCast_add]
    · rcases a4 i hi with h | h | h
      · exact hlo i h
      · have := b1 i h; omega
      · rw [h]; simp; omega
  · rintro r ⟨v, H⟩ _
    funext G
    have g1 : kbin .lss (.int .i64 (n : Int)) (.int .i64 (n : Int)) = some (.bool false) := by rw [klt, decide_eq_false (by omega)]
    simp only [S.impl_Grid_blanks.l6]
    simp [g1, -kbin_lss]
  · rintro ⟨v, H⟩ ⟨k0, I0, I1, R, hr, nd, hlo⟩
    try simp only at I0 I1 hr k0
    obtain ⟨v', bl', f1, f2⟩ := goodCellSS.fin (by omega) hr nd b
    refine ⟨v', bl', S.impl_Grid_blanks.gives (k := 1001) ?_, f2⟩
    have a1 := fun G => congrFun k0 G
    simp only [show ((0 : Nat) : Int) = 0 from rfl] at a1
    have hb1 : ∀ {Q : Type} (K : GV → Heap → Option Q), kbox (.agg M) [] K = K (.ptr 0 0 2) [M] := fun K => by rw [kbox_agg, hML]; rfl
    have hb2 : ∀ {Q : Type} (K : GV → Heap → Option Q), kbox (.agg Z) [M] K = K (.ptr 1 0 5) [M, Z] := fun K => by rw [kbox_agg, hZL]; rfl
    unfold S.impl_Grid_blanks.run S.impl_Grid_blanks.n0
    rw [hb1, hb2]
    simp [a1, f1]
/-- A slice whose elements lie one by one in a block. -/
structure Sub (H : Heap) (x : GV) (c : List GV) : Prop where
  len : klen x = some (.int .i64 (c.length : Int))
  got : ∀ H', (∀ i ∈ kblk x, H'[i]? = H[i]?) → gcells H' 1 x = some (c.length, c, kblk x)
  cell : c.all GV.isCell = true
  vcell : x.cells = [x] ∧ x.isCell = true
  below : ∀ i ∈ kblk x, i < H.length
theorem Sub.keep {H H' : Heap} {x : GV} {c : List GV} (h : Sub H x c) (f : Fr [] H H') : Sub H' x c :=
  ⟨h.len, fun H'' hh => h.got H'' fun i hi => (hh i hi).trans (f.2 i (h.below i hi) no_nil), h.cell, h.vcell, fun i hi => Nat.lt_of_lt_of_le (h.below i hi) f.1⟩
theorem Sub.sl {H : Heap} {b o l m : Nat} {cs : List GV} (hb : H[b]? = some cs) (hl : cs.length = o + m) (hm : l ≤ m) (hc : cs.all GV.isCell = true) : Sub H (.sl b o l m 1) ((cs.drop o).take l) := by
  have e : ((cs.drop o).take l).length = l := by rw [List.length_take, List.length_drop]; omega
  refine ⟨by rw [e]; rfl, fun H' hh => ?_, ?_, ⟨rfl, rfl⟩, fun i hi => ?_⟩
  · have h1 := hh b (by simp [kblk])
    unfold gcells
    simp only [Option.bind_eq_bind, cellsAt_if, h1, hb, Option.bind_some, Nat.mul_one, hl, if_true]
    rw [if_pos ⟨trivial, hm⟩, e]
    rfl
  · rw [List.all_eq_true] at hc ⊢
    exact fun x hx => hc x (List.mem_of_mem_drop (List.mem_of_mem_take hx))
  · simp only [kblk, List.mem_singleton] at hi
    rw [hi]; exact (List.getElem?_eq_some_iff.1 hb).1
theorem Sub.emp {H : Heap} {x : GV} (h : x = .emp ∨ x = .nils) : Sub H x [] := by
  rcases h with rfl | rfl <;> exact ⟨rfl, fun _ _ => rfl, rfl, ⟨rfl, rfl⟩, fun i hi => by cases hi⟩
theorem grow_op (m : Nat) (h0 : 0 < m) (hm : m ≤ 1000) (H : Heap) : HH fn.slices_Grow_impl_Cell_impl_Cell [.nils, .int .i64 (m : Int)] H = some (.sl H.length 0 0 m 1, H ++ [zeros [.nils] m]) := by
  apply S.slices_Grow_impl_Cell_impl_Cell.gives (k := 0)
  have g0 : kbin .lss (.int .i64 (m : Int)) (.int .i64 0) = some (.bool false) := by rw [kbin_lss, decide_eq_false (by omega)]
  have s0 : kbin .sub (.int .i64 0) (.int .i64 0) = some (.int .i64 0) := by rw [kbin_sub, wrap_id (by omega) (by omega)]; rfl
  have s1 : kbin .sub (.int .i64 (m : Int)) (.int .i64 0) = some (.int .i64 (m : Int)) := by rw [kbin_sub, Int.sub_zero, wrap_id (by omega) (by omega)]
  have g1 : kbin .gtr (.int .i64 (m : Int)) (.int .i64 0) = some (.bool true) := by rw [kbin_gtr, decide_eq_true (by omega)]
  have k1 : ksl 1 .nils none (some (.int .i64 0)) none = some .nils := by simp [ksl, kslice, gslice, gopt, gint]
  have k2 : kapz [.nils] 1 24 .nils (.int .i64 (m : Int)) H = some (.sl H.length 0 m m 1, H ++ [zeros [.nils] m]) := by
    simp only [kapz]
    rw [if_pos ⟨by omega, by simp only [maxLen]; omega, by simp only [roomMax]; omega, rfl⟩, if_neg (by omega)]
    try rfl
  have k3 : ksl 1 (.sl H.length 0 m m 1) none (some (.int .i64 0)) none = some (.sl H.length 0 0 m 1) := by simp [ksl, kslice, gslice, gopt, gint]
  simp [S.slices_Grow_impl_Cell_impl_Cell.run, g0, s0, s1, g1, k1, k2, k3, -kbin_lss, -kbin_sub, -kbin_gtr]
set_option maxRecDepth 20000 in
theorem concat2 {H : Heap} {b : Nat} {x1 x2 : GV} {c1 c2 : List GV} (hb : H[b]? = some [x1, x2]) (h1 : Sub H x1 c1) (h2 : Sub H x2 c2) (h0 : 0 < c1.length + c2.length) (hm : c1.length + c2.length ≤ 1000) :
    HH fn.slices_Concat_impl_Cell_impl_Cell [.sl b 0 2 2 1] H = some (.sl H.length 0 (c1.length + c2.length) (c1.length + c2.length) 1, H ++ [c1 ++ c2]) := by
  apply S.slices_Concat_impl_Cell_impl_Cell.gives (k := 5)
  have hbl := (List.getElem?_eq_some_iff.1 hb).1
  have l2 : klen (.sl b 0 2 2 1) = some (.int .i64 2) := rfl
  have i0 : kia 1 (.sl b 0 2 2 1) (.int .i64 0) = some (.ptr b 0 2) := kia_at (j := 0) (by omega) rfl rfl
  have i1 : kia 1 (.sl b 0 2 2 1) (.int .i64 1) = some (.ptr b 1 2) := kia_at (j := 1) (by omega) rfl rfl
  have q0 := kload1_at (o := 0) (tot := 2) hb rfl
  have q1 := kload1_at (o := 1) (tot := 2) hb rfl
  simp only [List.getElem?_cons_succ, List.getElem?_cons_zero] at q0 q1
  have a1 : kbin .add (.int .i64 0) (.int .i64 (c1.length : Int)) = some (.int .i64 (c1.length : Int)) := by rw [kbin_add, wrap_id (by omega) (by omega)]; congr 2; omega
  have a2 : kbin .add (.int .i64 (c1.length : Int)) (.int .i64 (c2.length : Int)) = some (.int .i64 ((c1.length + c2.length : Nat) : Int)) := by rw [kbin_add, wrap_id (by omega) (by omega)]; simp
  have n1 : kbin .lss (.int .i64 (c1.length : Int)) (.int .i64 0) = some (.bool false) := by rw [kbin_lss, decide_eq_false (by omega)]
  have n2 : kbin .lss (.int .i64 ((c1.length + c2.length : Nat) : Int)) (.int .i64 0) = some (.bool false) := by rw [kbin_lss, decide_eq_false (by omega)]
  have e0 : kbin .lss (.int .i64 0) (.int .i64 2) = some (.bool true) := rfl
  have e1 : kbin .lss (.int .i64 1) (.int .i64 2) = some (.bool true) := rfl
  have e2 : kbin .lss (.int .i64 2) (.int .i64 2) = some (.bool false) := rfl
  have p0 : kbin .add (.int .i64 0) (.int .i64 1) = some (.int .i64 1) := by rw [kbin_add, wrap_id (by omega) (by omega)]; rfl
  have p1 : kbin .add (.int .i64 1) (.int .i64 1) = some (.int .i64 2) := by rw [kbin_add, wrap_id (by omega) (by omega)]; rfl
  have gr := grow_op (c1.length + c2.length) h0 hm H
  obtain ⟨H1, hH1⟩ : ∃ H1, H ++ [zeros [.nils] (c1.length + c2.length)] = H1 := ⟨_, rfl⟩
  rw [hH1] at gr
  have f1 : Fr [] H H1 := by rw [← hH1]; exact .app
  have B1 : H1[H.length]? = some (zeros [.nils] (c1.length + c2.length)) := by rw [← hH1]; simp
  have z1 : (zeros [GV.nils] (c1.length + c2.length)).length = c1.length + c2.length := by rw [zeros_len']; simp
  have hb1 := f1.blk hb no_nil
  have q0' := kload1_at (o := 0) (tot := 2) hb1 rfl
  simp only [List.getElem?_cons_zero] at q0'
  have k1 : kapp [.nils] 1 24 (.sl H.length 0 0 (c1.length + c2.length) 1) x1 H1 = some (.sl H.length 0 c1.length (c1.length + c2.length) 1, H1.set H.length (c1 ++ zeros [.nils] c2.length)) := by
    have g := h1.got H1 fun i hi => f1.2 i (h1.below i hi) no_nil
    unfold kapp
    rw [g]
    simp only [Option.bind_some]
    rw [if_pos ⟨h1.cell, rfl, by simp only [maxLen]; omega, by simp only [roomMax]; omega⟩]
    simp only [cellsAt_if, B1, Option.bind_some, Nat.zero_add, Nat.mul_one, z1, if_true]
    rw [if_pos ⟨trivial, by omega, by simp only [roomMax]; omega, by simp only [maxLen]; omega⟩, if_pos (by omega)]
    congr 3
    unfold splice
    have := zeros_drop (z := [GV.nils]) (es := 1) rfl (c1.length + c2.length) c1.length (by omega)
    rw [Nat.mul_one] at this
    simp [this]
  have hl1 := (List.getElem?_eq_some_iff.1 B1).1
  obtain ⟨H2, hH2⟩ : ∃ H2, H1.set H.length (c1 ++ zeros [.nils] c2.length) = H2 := ⟨_, rfl⟩
  rw [hH2] at k1
  have f2 : Fr [H.length] H1 H2 := by rw [← hH2]; exact .set (by simp)
  have B2 : H2[H.length]? = some (c1 ++ zeros [.nils] c2.length) := by rw [← hH2, List.getElem?_set_self hl1]
  have hb2 := f2.blk hb1 (by simp; omega)
  have q1' := kload1_at (o := 1) (tot := 2) hb2 rfl
  simp only [List.getElem?_cons_succ, List.getElem?_cons_zero] at q1'
  have z2 : (c1 ++ zeros [GV.nils] c2.length).length = c1.length + c2.length := by rw [List.length_append, zeros_len']; simp
  have k2 : kapp [.nils] 1 24 (.sl H.length 0 c1.length (c1.length + c2.length) 1) x2 H2 = some (.sl H.length 0 (c1.length + c2.length) (c1.length + c2.length) 1, H ++ [c1 ++ c2]) := by
    have g := h2.got H2 fun i hi => by
      have := h2.below i hi
      rw [f2.2 i (by have := f1.1; omega) (by simp; omega), f1.2 i this no_nil]
    unfold kapp
    rw [g]
    simp only [Option.bind_some]
    rw [if_pos ⟨h2.cell, rfl, by simp only [maxLen]; omega, by simp only [roomMax]; omega⟩]
    simp only [cellsAt_if, B2, Option.bind_some, Nat.zero_add, Nat.mul_one, z2, if_true]
    rw [if_pos ⟨trivial, by omega, by simp only [roomMax]; omega, by simp only [maxLen]; omega⟩, if_pos (by omega)]
    have e : splice (c1 ++ zeros [GV.nils] c2.length) c1.length c2 = c1 ++ c2 := by
      unfold splice
      rw [List.take_left, ← z2, List.drop_of_length_le (by omega), List.append_nil]
    rw [e, ← hH2, List.set_set, ← hH1]
    simp
  simp [S.slices_Concat_impl_Cell_impl_Cell.run, S.slices_Concat_impl_Cell_impl_Cell.l21, S.slices_Concat_impl_Cell_impl_Cell.l8, l2, i0, i1, q0, q1, q0', q1', h1.len, h2.len, a1, a2, n1, n2, e0, e1, e2, p0, p1, gr, k1, k2, -kload1_ptr, -kbin_lss, -kbin_add, -klen_sl, -kia_sl, -Int.natCast_add]
end Go.Proofs.Ytlbnioapepelnaa.G

namespace Go.Proofs.Ytlbnioapepelnaa.G
open Go.RowKit
set_option linter.unusedVariables false
set_option linter.unusedSimpArgs false
theorem All3.take {α : Type} {E : List GV → α → List Nat → Prop} {css : List (List GV)} {xs : List α} {Rs : List (List Nat)} (h : All3 E css xs Rs) : ∀ k, All3 E (css.take k) (xs.take k) (Rs.take k) := by
  induction h with
  | nil => intro k; simp only [List.take_nil]; exact .nil
  | cons a _ ih =>
    intro k
    cases k with
    | zero => exact .nil
    | succ k => exact .cons a (ih k)
theorem All3.drop {α : Type} {E : List GV → α → List Nat → Prop} {css : List (List GV)} {xs : List α} {Rs : List (List Nat)} (h : All3 E css xs Rs) : ∀ k, All3 E (css.drop k) (xs.drop k) (Rs.drop k) := by
  induction h with
  | nil => intro k; simp only [List.drop_nil]; exact .nil
  | cons a ha ih =>
    intro k
    cases k with
    | zero => exact .cons a ha
    | succ k => exact ih k
theorem All3.app {α : Type} {E : List GV → α → List Nat → Prop} {c1 c2 : List (List GV)} {x1 x2 : List α} {R1 R2 : List (List Nat)} (h1 : All3 E c1 x1 R1) (h2 : All3 E c2 x2 R2) : All3 E (c1 ++ c2) (x1 ++ x2) (R1 ++ R2) := by
  induction h1 with
  | nil => exact h2
  | cons a _ ih => exact .cons a ih
theorem All3.cells {α : Type} {E : List GV → α → List Nat → Prop} (hc : ∀ {c x R}, E c x R → c.all GV.isCell = true) {css : List (List GV)} {xs : List α} {Rs : List (List Nat)} (ha : All3 E css xs Rs) : css.flatten.all GV.isCell = true := by
  induction ha with
  | nil => rfl
  | cons a _ ih => rw [List.flatten_cons, List.all_append, hc a, ih]; rfl
/-- One by one. -/
abbrev wr (cs : List GV) : List (List GV) := cs.map fun g => [g]
theorem wr_flat (cs : List GV) : (wr cs).flatten = cs := by
  induction cs with
  | nil => rfl
  | cons g cs ih => show [g] ++ (wr cs).flatten = _; rw [ih]; rfl
theorem wr_of {css : List (List GV)} (h : ∀ c ∈ css, c.length = 1) : css = wr css.flatten := by
  induction css with
  | nil => rfl
  | cons c css ih =>
    obtain ⟨g, rfl⟩ := List.length_eq_one_iff.1 (h c (by simp))
    rw [List.flatten_cons]
    show _ = [g] :: wr css.flatten
    rw [← ih fun c hc => h c (by simp [hc])]
/-- A slice of slices, by its cells. -/
theorem rows_open {H : Heap} {v : GV} {rows : List (List CellT)} {R : List Nat} (h : rCellSS H [v] rows R) (h0 : 0 < rows.length) : ∃ b cs Rs, v = .sl b 0 rows.length rows.length 1 ∧ H[b]? = some cs ∧ cs.length = rows.length ∧ All3 (rCellS H) (wr cs) rows Rs ∧ R = b :: Rs.flatten := by
  rcases h with ⟨rfl, _, _⟩ | ⟨b, css, Rs, hv, hb, ha, rfl⟩
  · cases h0
  · injection hv with hv
    obtain ⟨fl, fe⟩ := All3.flen (fun h => goodCellS.len h) ha
    refine ⟨b, css.flatten, Rs, hv, hb, by omega, ?_, rfl⟩
    rw [← wr_of fe]; exact ha
theorem rows_close {H : Heap} {b n : Nat} {cs : List GV} {rows : List (List CellT)} {Rs : List (List Nat)} (hb : H[b]? = some cs) (ha : All3 (rCellS H) (wr cs) rows Rs) (hn : rows.length = n) : rCellSS H [.sl b 0 n n 1] rows (b :: Rs.flatten) := by
  subst hn
  exact Or.inr ⟨b, wr cs, Rs, rfl, by rw [wr_flat]; exact hb, ha, rfl⟩
theorem nodup_up {a x b c n : List Nat} (h : (a ++ (x ++ (b ++ c))).Nodup) (hn : n.Nodup) (hd : ∀ i ∈ n, i ∉ a ++ (x ++ (b ++ c))) : (a ++ (b ++ n) ++ c).Nodup := by
  simp only [List.nodup_append, List.mem_append, not_or] at *
  obtain ⟨h1, ⟨h2, ⟨h3, h4, h5⟩, h6⟩, h7⟩ := h
  refine ⟨⟨h1, ⟨h3, hn, fun i hi k hk e => (hd k hk).2.2.1 (e ▸ hi)⟩, fun i hi k hk e => ?_⟩, h4, fun i hi k hk e => ?_⟩
  · rcases hk with hk | hk
    · exact h7 i hi k (Or.inr (Or.inl hk)) e
    · exact (hd k hk).1 (e ▸ hi)
  · rcases hi with hi | hi | hi
    · exact h7 i hi k (Or.inr (Or.inr hk)) e
    · exact h5 i hi k hk e
    · exact (hd i hi).2.2.2 (e ▸ hk)
theorem nodup_down {a x b c n : List Nat} (h : (a ++ (b ++ (x ++ c))).Nodup) (hn : n.Nodup) (hd : ∀ i ∈ n, i ∉ a ++ (b ++ (x ++ c))) : (a ++ (n ++ b) ++ c).Nodup := by
  simp only [List.nodup_append, List.mem_append, not_or] at *
  obtain ⟨h1, ⟨h2, ⟨h3, h4, h5⟩, h6⟩, h7⟩ := h
  refine ⟨⟨h1, ⟨hn, h2, fun i hi k hk e => (hd i hi).2.1 (e ▸ hk)⟩, fun i hi k hk e => ?_⟩, h4, fun i hi k hk e => ?_⟩
  · rcases hk with hk | hk
    · exact (hd k hk).1 (e ▸ hi)
    · exact h7 i hi k (Or.inl hk) e
  · rcases hi with hi | hi | hi
    · exact h7 i hi k (Or.inr (Or.inr hk)) e
    · exact (hd i hi).2.2.2 (e ▸ hk)
    · exact h6 i hi k (Or.inr hk) e
theorem parts_up {α : Type} (l : List α) {top k bot : Nat} (h1 : top + k ≤ bot + 1) : l = l.take top ++ ((l.drop top).take k ++ ((l.drop (top + k)).take (bot + 1 - (top + k)) ++ l.drop (bot + 1))) := by
  have e1 : l.drop (bot + 1) = (l.drop (top + k)).drop (bot + 1 - (top + k)) := by rw [List.drop_drop]; congr 1; omega
  have e2 : l.drop (top + k) = (l.drop top).drop k := by rw [List.drop_drop]
  rw [e1, List.take_append_drop, e2, List.take_append_drop, List.take_append_drop]
theorem parts_down {α : Type} (l : List α) {top k bot : Nat} (h1 : top + k ≤ bot + 1) : l = l.take top ++ ((l.drop top).take (bot + 1 - k - top) ++ ((l.drop (bot + 1 - k)).take k ++ l.drop (bot + 1))) := by
  have e1 : l.drop (bot + 1) = (l.drop (bot + 1 - k)).drop k := by rw [List.drop_drop]; congr 1; omega
  have e2 : l.drop (bot + 1 - k) = (l.drop top).drop (bot + 1 - k - top) := by rw [List.drop_drop]; congr 1; omega
  rw [e1, List.take_append_drop, e2, List.take_append_drop, List.take_append_drop]
theorem ksl_mid {b n i j : Nat} (h1 : i ≤ j) (h2 : j ≤ n) : ksl 1 (.sl b 0 n n 1) (some (.int .i64 (i : Int))) (some (.int .i64 (j : Int))) none = some (.sl b i (j - i) (n - i) 1) := by
  have a1 : (i : Int) ≤ j := by omega
  have a2 : (j : Int) ≤ n := by omega
  have a3 : (i : Int) ≤ n := by omega
  simp [ksl, kslice, gslice, gopt, gint, a1, a2, a3]
  try omega
theorem ksl_from {b n i : Nat} (h1 : i ≤ n) : ksl 1 (.sl b 0 n n 1) (some (.int .i64 (i : Int))) none none = some (.sl b i (n - i) (n - i) 1) := by
  have a1 : (i : Int) ≤ n := by omega
  simp [ksl, kslice, gslice, gopt, gint, a1]
/-- The rows' cells from a place on are others. -/
theorem kcopy_in {H : Heap} {b n top q m : Nat} {cs new : List GV} (hb : H[b]? = some cs) (hl : cs.length = n) (hq : H[q]? = some new) (hn : new.length = m) (hm : top + m ≤ n) (hc : new.all GV.isCell = true) : kcopy 1 (.sl b top (n - top) (n - top) 1) (.sl q 0 m m 1) H = some (.int .i64 (m : Int), H.set b (cs.take top ++ new ++ cs.drop (top + m))) := by
  have hg : gcells H 1 (.sl q 0 m m 1) = some (m, new, [q]) := by
    unfold gcells
    simp only [Option.bind_eq_bind, cellsAt_if, hq, Option.bind_some, Nat.zero_add, Nat.mul_one, hn, if_true, List.drop_zero]
    rw [if_pos ⟨trivial, Nat.le_refl _⟩, List.take_of_length_le (by omega)]
  unfold kcopy
  rw [hg]
  simp only [Option.bind_some]
  rw [if_pos hc]
  simp only [cellsAt_if, hb, Option.bind_some, Nat.mul_one]
  rw [if_pos (by omega)]
  simp only [Option.bind_some]
  rw [if_pos ⟨trivial, Nat.le_refl _⟩]
  have e1 : min m (n - top) = m := by omega
  rw [e1]
  congr 3
  unfold splice
  have e2 : new.take m = new := List.take_of_length_le (by omega)
  rw [e2, hn]
abbrev gridC (c : Int) (v : GV) : List GV := [.int .i64 c, v]
theorem Rs_len {H : Heap} {css : List (List GV)} {rows : List (List CellT)} {Rs : List (List Nat)} (h : All3 (rCellS H) css rows Rs) : css.length = rows.length ∧ Rs.length = rows.length := h.len
theorem wr_take (cs : List GV) (k : Nat) : (wr cs).take k = wr (cs.take k) := List.map_take.symm
theorem wr_drop (cs : List GV) (k : Nat) : (wr cs).drop k = wr (cs.drop k) := List.map_drop.symm
theorem wr_app (a b : List GV) : wr (a ++ b) = wr a ++ wr b := List.map_append
theorem fl_take {Rs : List (List Nat)} {k : Nat} : ∀ i ∈ (Rs.take k).flatten, i ∈ Rs.flatten := fun i hi => by
  rw [List.mem_flatten] at hi ⊢
  obtain ⟨l, h1, h2⟩ := hi
  exact ⟨l, List.mem_of_mem_take h1, h2⟩
theorem fl_drop {Rs : List (List Nat)} {k : Nat} : ∀ i ∈ (Rs.drop k).flatten, i ∈ Rs.flatten := fun i hi => by
  rw [List.mem_flatten] at hi ⊢
  obtain ⟨l, h1, h2⟩ := hi
  exact ⟨l, List.mem_of_mem_drop h1, h2⟩
/-- New blank rows, by their cells. -/
theorem blanks_sub {n0 k : Nat} {H2 : Heap} {w : GV} {new : List (List CellT)} {S2 : List Nat} (hbl : new.length = k) (r2 : rCellSS H2 [w] new S2) (n2 : S2.Nodup) (b2 : ∀ i ∈ S2, n0 ≤ i ∧ i < H2.length) : ∃ c2 S3, Sub H2 w c2 ∧ c2.length = k ∧ All3 (rCellS H2) (wr c2) new S3 ∧ S3.flatten.Nodup ∧ (∀ i ∈ S3.flatten, n0 ≤ i) ∧ w.cells = [w] ∧ w.isCell = true ∧ ∀ i ∈ kblk w, n0 ≤ i := by
  by_cases hk0 : k = 0
  · subst hk0
    obtain rfl : new = [] := List.eq_nil_of_length_eq_zero hbl
    rcases r2 with ⟨_, _, hc⟩ | ⟨b3, css, Rs3, hv3, hb3, ha3, rfl⟩
    · have hw : w = .emp ∨ w = .nils := by rcases hc with hc | hc <;> (injection hc with hc; simp [hc])
      refine ⟨[], [], .emp hw, rfl, .nil, List.nodup_nil, fun i hi => by (cases hi), ?_⟩
      rcases hw with rfl | rfl <;> exact ⟨rfl, rfl, fun i hi => by cases hi⟩
    · injection hv3 with hv3
      rw [hbl] at hv3
      obtain ⟨fl, _⟩ := All3.flen (fun h => goodCellS.len h) ha3
      rw [hbl, Nat.zero_mul] at fl
      have hb3' : css.flatten = [] := List.eq_nil_of_length_eq_zero fl
      rw [hb3'] at hb3
      have := Sub.sl (o := 0) (l := 0) (m := 0) hb3 (by simp) (by omega) rfl
      rw [← hv3] at this
      have hin := b2 b3 (List.mem_cons_self ..)
      refine ⟨[], [], by simpa using this, rfl, .nil, List.nodup_nil, fun i hi => by (cases hi), by rw [hv3]; rfl, by rw [hv3]; rfl, fun i hi => ?_⟩
      rw [hv3] at hi
      simp only [kblk, List.mem_singleton] at hi
      omega
  · obtain ⟨b3, c3, S3, hv3, hb3, hl3, ha3, rfl⟩ := rows_open r2 (by rw [hbl]; omega)
    rw [hbl] at hv3 hl3
    rw [List.nodup_cons] at n2
    have c3c : c3.all GV.isCell = true := by have := ha3.cells fun h => goodCellS.cell h; rwa [wr_flat] at this
    have := Sub.sl (o := 0) (l := k) (m := k) hb3 (by omega) (Nat.le_refl _) c3c
    rw [List.drop_zero, List.take_of_length_le (by omega), ← hv3] at this
    refine ⟨c3, S3, this, hl3, ha3, n2.2, fun i hi => (b2 i (List.mem_cons_of_mem _ hi)).1, by rw [hv3]; rfl, by rw [hv3]; rfl, fun i hi => ?_⟩
    rw [hv3] at hi
    simp only [kblk, List.mem_singleton] at hi
    have := b2 b3 (List.mem_cons_self ..)
    omega
theorem up_op {p : Nat} {c : Int} {rows : List (List CellT)} {H : Heap} {vR : GV} {R : List Nat} (hp : H[p]? = some (gridC c vR)) (hr : rCellSS H [vR] rows R) (nd : R.Nodup) (hpR : p ∉ R) {top bot n : Int} {s : StyT} (hs : scrollB (c, rows) top bot n s = true) :
    ∃ H' R', HH fn.impl_Grid_up [.ptr p 0 2, .int .i64 top, .int .i64 bot, .int .i64 n, styG s] H = some (.tup [], H') ∧ H'[p]? = some (gridC c vR) ∧ rCellSS H' [vR] (upR rows top.toNat bot.toNat (movN top bot n) (blanksM c s (movN top bot n))) R' ∧ R'.Nodup ∧ (∀ i ∈ R', i ∈ R ∨ H.length ≤ i) ∧ Fr R H H' := by
  obtain ⟨hg, hsty, hn, ht, htb, hb⟩ := scrollB_iff.1 hs
  obtain ⟨hc, hrl, hrow⟩ := gridB_iff.1 hg
  simp only at hc hrl hrow hb
  obtain ⟨t, rfl⟩ : ∃ t : Nat, top = (t : Int) := ⟨top.toNat, by omega⟩
  obtain ⟨bo, rfl⟩ : ∃ t : Nat, bot = (t : Int) := ⟨bot.toNat, by omega⟩
  obtain ⟨k, hk⟩ : ∃ k, movN t bo n = k := ⟨_, rfl⟩
  have hk' : (k : Int) = min n ((bo : Int) - t + 1) := by rw [← hk]; unfold movN; rw [Int.toNat_of_nonneg]; omega
  rw [hk]
  have et : ((t : Int)).toNat = t := by omega
  have eb : ((bo : Int)).toNat = bo := by omega
  rw [et, eb]
  have hkb : t + k ≤ bo + 1 := by omega
  obtain ⟨b, cs, Rs, hv, hcb, hcl, ha, rfl⟩ := rows_open hr (by omega)
  rw [List.nodup_cons] at nd
  obtain ⟨N, hN⟩ : ∃ N, rows.length = N := ⟨_, rfl⟩
  rw [hN] at hv hcl
  have hpl := (List.getElem?_eq_some_iff.1 hp).1
  have hblen := (List.getElem?_eq_some_iff.1 hcb).1
  -- the style in a block
  obtain ⟨Z, hZ⟩ : ∃ Z, styC s = Z := ⟨_, rfl⟩
  have hZL : Z.length = 5 := by rw [← hZ]; rfl
  have hsg : styG s = .agg Z := by rw [← hZ]
  have bsty := bors_st s
  rw [hsg] at bsty ⊢
  obtain ⟨H1, hH1⟩ : ∃ H1, H ++ [Z] = H1 := ⟨_, rfl⟩
  have hbox : ∀ {Q : Type} (K : GV → Heap → Option Q), kbox (.agg Z) H K = K (.ptr H.length 0 5) H1 := fun K => by rw [kbox_agg, hZL, ← hH1]
  have f1 : Fr [] H H1 := by rw [← hH1]; exact .app
  have l1 : H1.length = H.length + 1 := by rw [← hH1]; simp
  have Z1 : H1[H.length]? = some Z := by rw [← hH1]; simp
  have P1 := f1.blk hp no_nil
  have B1 := f1.blk hcb no_nil
  have q1 := kload1_at (o := 1) (tot := 2) P1 rfl
  simp only [List.getElem?_cons_succ, List.getElem?_cons_zero] at q1
  have qA := kloadA_at (n := 2) P1 rfl
  have qZ := kloadA_at (n := 5) Z1 hZL
  have r1 := goodCellSS.keep hr f1 (fun _ _ => no_nil)
  have rg : rGrid H1 (gridC c vR) (c, rows) (b :: Rs.flatten) := ⟨[.int .i64 c], [vR], [], b :: Rs.flatten, rfl, rfl, ⟨rfl, rfl⟩, r1⟩
  obtain ⟨w, S2, H2, t2, r2, n2, b2, f2, l2⟩ := fresh_one goodCellSS (f := fn.impl_Grid_blanks) (args := [.agg (gridC c vR), .int .i64 (k : Int), .agg Z]) (xs := [.agg (mGrid true (c, rows)), .int .i64 (k : Int), .agg Z]) (H := H1) (x := blanksM c s k) (bors_agg goodGrid (by omega) rg (bors_i _ _ _ _ (bsty _ _ _ rfl))) (by rw [← hsg]; exact impl_Grid_blanks_spec (c, rows) hc s hsty k (by omega) H1.length)
  have B2 := f2.blk B1 no_nil
  have P2 := f2.blk P1 no_nil
  have cells2 : cs.all GV.isCell = true := by have := ha.cells fun h => goodCellS.cell h; rwa [wr_flat] at this
  have x1 : Sub H2 (.sl b (t + k) (bo + 1 - (t + k)) (N - (t + k)) 1) ((cs.drop (t + k)).take (bo + 1 - (t + k))) := Sub.sl B2 (by omega) (by omega) cells2
  have x2 := blanks_sub (n0 := H1.length) (k := k) (List.length_replicate (n := k) (a := List.replicate c.toNat (blankS s))) r2 n2 b2
  obtain ⟨c2, S3, x2, hc2, ha2, nd2, lo2, wc1, wc2, wlo⟩ := x2
  have hm1 : ((cs.drop (t + k)).take (bo + 1 - (t + k))).length = bo + 1 - (t + k) := by rw [List.length_take, List.length_drop]; omega
  obtain ⟨H3, hH3⟩ : ∃ H3, H2 ++ [[.sl b (t + k) (bo + 1 - (t + k)) (N - (t + k)) 1, w]] = H3 := ⟨_, rfl⟩
  have f3 : Fr [] H2 H3 := by rw [← hH3]; exact .app
  have l3 : H3.length = H2.length + 1 := by rw [← hH3]; simp
  have C3 : H3[H2.length]? = some [.sl b (t + k) (bo + 1 - (t + k)) (N - (t + k)) 1, w] := by rw [← hH3]; simp
  have cc := concat2 C3 (x1.keep f3) (x2.keep f3) (by omega) (by omega)
  obtain ⟨H4, hH4⟩ : ∃ H4, H3 ++ [(cs.drop (t + k)).take (bo + 1 - (t + k)) ++ c2] = H4 := ⟨_, rfl⟩
  rw [hH4] at cc
  have f4 : Fr [] H3 H4 := by rw [← hH4]; exact .app
  have D4 : H4[H3.length]? = some ((cs.drop (t + k)).take (bo + 1 - (t + k)) ++ c2) := by rw [← hH4]; simp
  have f14 : Fr [] H1 H4 := f2.trans (f3.trans f4)
  have P4 := f14.blk P1 no_nil
  have B4 := f14.blk B1 no_nil
  have q4 := kload1_at (o := 1) (tot := 2) P4 rfl
  simp only [List.getElem?_cons_succ, List.getElem?_cons_zero] at q4
  have newl : ((cs.drop (t + k)).take (bo + 1 - (t + k)) ++ c2).length = bo + 1 - t := by rw [List.length_append, hm1, hc2]; omega
  have kc := kcopy_in (top := t) B4 hcl D4 newl (by omega) (by rw [List.all_append, x1.cell, x2.cell]; rfl)
  have em : bo + 1 - (t + k) + k = bo + 1 - t := by omega
  rw [hm1, hc2, em] at cc
  rw [show t + (bo + 1 - t) = bo + 1 by omega] at kc
  obtain ⟨H5, hH5⟩ : ∃ H5, H4.set b (cs.take t ++ ((cs.drop (t + k)).take (bo + 1 - (t + k)) ++ c2) ++ cs.drop (bo + 1)) = H5 := ⟨_, rfl⟩
  rw [hH5] at kc
  have f5 : Fr [b] H4 H5 := by rw [← hH5]; exact .set (by simp)
  have hbl4 := (List.getElem?_eq_some_iff.1 B4).1
  have B5 : H5[b]? = some (cs.take t ++ ((cs.drop (t + k)).take (bo + 1 - (t + k)) ++ c2) ++ cs.drop (bo + 1)) := by rw [← hH5, List.getElem?_set_self hbl4]
  -- the rows
  have hRsm : ∀ i ∈ Rs.flatten, i < H.length := fun i hi => goodCellSS.mem hr i (List.mem_cons_of_mem _ hi)
  have hS3m : ∀ i ∈ S3.flatten, i < H2.length := All3.mem (fun a => goodCellS.mem a) ha2
  have ha5 : All3 (rCellS H5) (wr cs) rows Rs := All3.frame (fun a b => goodCellS.frame a b) ha fun i hi => by
    have hi1 := hRsm i hi
    have hib : i ≠ b := fun e => nd.1 (e ▸ hi)
    have hl4 := f14.1
    rw [f5.2 i (by omega) (by simpa using hib), f14.2 i (by omega) no_nil, f1.2 i hi1 no_nil]
  have ha52 : All3 (rCellS H5) (wr c2) (blanksM c s k) S3 := All3.frame (fun a b => goodCellS.frame a b) ha2 fun i hi => by
    have hi1 := hS3m i hi
    have hi2 := lo2 i hi
    have hl4 := (f3.trans f4).1
    rw [f5.2 i (by omega) (by simp; omega), (f3.trans f4).2 i hi1 no_nil]
  have hall : All3 (rCellS H5) (wr (cs.take t ++ ((cs.drop (t + k)).take (bo + 1 - (t + k)) ++ c2) ++ cs.drop (bo + 1))) (upR rows t bo k (blanksM c s k)) (Rs.take t ++ ((Rs.drop (t + k)).take (bo + 1 - (t + k)) ++ S3) ++ Rs.drop (bo + 1)) := by
    unfold upR
    rw [wr_app, wr_app, wr_app, ← wr_take, ← wr_take, ← wr_drop, ← wr_drop]
    exact (((ha5.take t).app (((ha5.drop (t + k)).take _).app ha52)).app (ha5.drop (bo + 1)))
  have hlen := upR_len rows t bo k (blanksM c s k) (by omega) (by omega) (by omega) List.length_replicate
  have hR := parts_up Rs hkb
  have ndR : (Rs.take t ++ ((Rs.drop (t + k)).take (bo + 1 - (t + k)) ++ S3) ++ Rs.drop (bo + 1)).flatten.Nodup := by
    have h := nd.2
    rw [hR] at h
    simp only [List.flatten_append] at h ⊢
    refine nodup_up h nd2 fun i hi h' => ?_
    have h1 : i ∈ Rs.flatten := by rw [hR]; simpa only [List.flatten_append] using h'
    have := hRsm i h1
    have := lo2 i hi
    omega
  have hin : ∀ i ∈ (Rs.take t ++ ((Rs.drop (t + k)).take (bo + 1 - (t + k)) ++ S3) ++ Rs.drop (bo + 1)).flatten, i ∈ Rs.flatten ∨ H.length ≤ i := fun i hi => by
    simp only [List.flatten_append, List.mem_append] at hi
    rcases hi with (hi | hi | hi) | hi
    · exact Or.inl (fl_take i hi)
    · exact Or.inl (fl_drop i (fl_take i hi))
    · exact Or.inr (by have := lo2 i hi; omega)
    · exact Or.inl (fl_drop i hi)
  refine ⟨H5, b :: (Rs.take t ++ ((Rs.drop (t + k)).take (bo + 1 - (t + k)) ++ S3) ++ Rs.drop (bo + 1)).flatten, ?_, f5.blk P4 (by simpa using fun e => hpR (by rw [e]; exact List.mem_cons_self ..)), ?_, ?_, fun i hi => ?_, ((f1.trans f14).sub (fun _ h => by cases h)).trans (f5.sub (by simp))⟩
  · apply S.impl_Grid_up.gives (k := 0)
    have g1 : kbin .sub (.int .i64 (bo : Int)) (.int .i64 (t : Int)) = some (.int .i64 ((bo : Int) - t)) := by rw [kbin_sub, wrap_id (by omega) (by omega)]
    have g2 : kbin .add (.int .i64 ((bo : Int) - t)) (.int .i64 1) = some (.int .i64 ((bo : Int) - t + 1)) := by rw [kbin_add, wrap_id (by omega) (by omega)]
    have g3 : gmin (.int .i64 n) (.int .i64 ((bo : Int) - t + 1)) = some (.int .i64 (k : Int)) := by rw [gmin_int, hk']; congr 2; rw [Int.min_def]; split <;> split <;> omega
    have g4 : kbin .add (.int .i64 (t : Int)) (.int .i64 (k : Int)) = some (.int .i64 ((t + k : Nat) : Int)) := by rw [kbin_add, wrap_id (by omega) (by omega)]; simp
    have g5 := kadd1 (n := bo) (by omega)
    have s1 := ksl_mid (b := b) (n := N) (i := t + k) (j := bo + 1) hkb (by omega)
    have s2 := ksl_from (b := b) (n := N) (i := t) (by omega)
    rw [← hv] at s1 s2
    have wc : ∀ {Q : Type} (K : GV → Heap → Option Q), kbs 2 1 [.sl b (t + k) (bo + 1 - (t + k)) (N - (t + k)) 1, w] H2 K = K (.sl H2.length 0 2 2 1) H3 := fun K => by rw [kbs_at, hH3]
    have gf : gfill (fun i => some (i, 1)) (zeros [GV.nils] 2) [(0, .sl b (t + k) (bo + 1 - (t + k)) (N - (t + k)) 1), (1, w)] = some [.sl b (t + k) (bo + 1 - (t + k)) (N - (t + k)) 1, w] := by
      simp [gfill, zeros, wc1, wc2]
    unfold S.impl_Grid_up.run S.impl_Grid_up.n0
    rw [hbox]
    simp [g1, g2, g3, knil, q1, g4, g5, s1, qA, qZ, t2, gf, wc, cc, q4, s2, kc, -kF_OO, -kbin_sub, -kbin_add, -gmin_int, -kload1_ptr, -kloadA_ptr, -Int.natCast_add]
  · rw [hv]
    exact rows_close B5 hall (by rw [hlen, hN])
  · rw [List.nodup_cons]
    refine ⟨fun h => ?_, ndR⟩
    rcases hin b h with h | h
    · exact nd.1 h
    · omega
  · rcases List.mem_cons.1 hi with rfl | hi
    · exact Or.inl (List.mem_cons_self ..)
    · exact (hin i hi).imp (List.mem_cons_of_mem _) id
theorem down_op {p : Nat} {c : Int} {rows : List (List CellT)} {H : Heap} {vR : GV} {R : List Nat} (hp : H[p]? = some (gridC c vR)) (hr : rCellSS H [vR] rows R) (nd : R.Nodup) (hpR : p ∉ R) {top bot n : Int} {s : StyT} (hs : scrollB (c, rows) top bot n s = true) :
    ∃ H' R', HH fn.impl_Grid_down [.ptr p 0 2, .int .i64 top, .int .i64 bot, .int .i64 n, styG s] H = some (.tup [], H') ∧ H'[p]? = some (gridC c vR) ∧ rCellSS H' [vR] (downR rows top.toNat bot.toNat (movN top bot n) (blanksM c s (movN top bot n))) R' ∧ R'.Nodup ∧ (∀ i ∈ R', i ∈ R ∨ H.length ≤ i) ∧ Fr R H H' := by
  obtain ⟨hg, hsty, hn, ht, htb, hb⟩ := scrollB_iff.1 hs
  obtain ⟨hc, hrl, hrow⟩ := gridB_iff.1 hg
  simp only at hc hrl hrow hb
  obtain ⟨t, rfl⟩ : ∃ t : Nat, top = (t : Int) := ⟨top.toNat, by omega⟩
  obtain ⟨bo, rfl⟩ : ∃ t : Nat, bot = (t : Int) := ⟨bot.toNat, by omega⟩
  obtain ⟨k, hk⟩ : ∃ k, movN t bo n = k := ⟨_, rfl⟩
  have hk' : (k : Int) = min n ((bo : Int) - t + 1) := by rw [← hk]; unfold movN; rw [Int.toNat_of_nonneg]; omega
  rw [hk]
  have et : ((t : Int)).toNat = t := by omega
  have eb : ((bo : Int)).toNat = bo := by omega
  rw [et, eb]
  have hkb : t + k ≤ bo + 1 := by omega
  obtain ⟨b, cs, Rs, hv, hcb, hcl, ha, rfl⟩ := rows_open hr (by omega)
  rw [List.nodup_cons] at nd
  obtain ⟨N, hN⟩ : ∃ N, rows.length = N := ⟨_, rfl⟩
  rw [hN] at hv hcl
  have hpl := (List.getElem?_eq_some_iff.1 hp).1
  have hblen := (List.getElem?_eq_some_iff.1 hcb).1
  -- the style in a block
  obtain ⟨Z, hZ⟩ : ∃ Z, styC s = Z := ⟨_, rfl⟩
  have hZL : Z.length = 5 := by rw [← hZ]; rfl
  have hsg : styG s = .agg Z := by rw [← hZ]
  have bsty := bors_st s
  rw [hsg] at bsty ⊢
  obtain ⟨H1, hH1⟩ : ∃ H1, H ++ [Z] = H1 := ⟨_, rfl⟩
  have hbox : ∀ {Q : Type} (K : GV → Heap → Option Q), kbox (.agg Z) H K = K (.ptr H.length 0 5) H1 := fun K => by rw [kbox_agg, hZL, ← hH1]
  have f1 : Fr [] H H1 := by rw [← hH1]; exact .app
  have l1 : H1.length = H.length + 1 := by rw [← hH1]; simp
  have Z1 : H1[H.length]? = some Z := by rw [← hH1]; simp
  have P1 := f1.blk hp no_nil
  have B1 := f1.blk hcb no_nil
  have q1 := kload1_at (o := 1) (tot := 2) P1 rfl
  simp only [List.getElem?_cons_succ, List.getElem?_cons_zero] at q1
  have qA := kloadA_at (n := 2) P1 rfl
  have qZ := kloadA_at (n := 5) Z1 hZL
  have r1 := goodCellSS.keep hr f1 (fun _ _ => no_nil)
  have rg : rGrid H1 (gridC c vR) (c, rows) (b :: Rs.flatten) := ⟨[.int .i64 c], [vR], [], b :: Rs.flatten, rfl, rfl, ⟨rfl, rfl⟩, r1⟩
  obtain ⟨w, S2, H2, t2, r2, n2, b2, f2, l2⟩ := fresh_one goodCellSS (f := fn.impl_Grid_blanks) (args := [.agg (gridC c vR), .int .i64 (k : Int), .agg Z]) (xs := [.agg (mGrid true (c, rows)), .int .i64 (k : Int), .agg Z]) (H := H1) (x := blanksM c s k) (bors_agg goodGrid (by omega) rg (bors_i _ _ _ _ (bsty _ _ _ rfl))) (by rw [← hsg]; exact impl_Grid_blanks_spec (c, rows) hc s hsty k (by omega) H1.length)
  have B2 := f2.blk B1 no_nil
  have P2 := f2.blk P1 no_nil
  have cells2 : cs.all GV.isCell = true := by have := ha.cells fun h => goodCellS.cell h; rwa [wr_flat] at this
  have x1 : Sub H2 (.sl b t (bo + 1 - k - t) (N - t) 1) ((cs.drop t).take (bo + 1 - k - t)) := Sub.sl B2 (by omega) (by omega) cells2
  have x2 := blanks_sub (n0 := H1.length) (k := k) (List.length_replicate (n := k) (a := List.replicate c.toNat (blankS s))) r2 n2 b2
  obtain ⟨c2, S3, x2, hc2, ha2, nd2, lo2, wc1, wc2, wlo⟩ := x2
  have hm1 : ((cs.drop t).take (bo + 1 - k - t)).length = bo + 1 - k - t := by rw [List.length_take, List.length_drop]; omega
  obtain ⟨H3, hH3⟩ : ∃ H3, H2 ++ [[w, .sl b t (bo + 1 - k - t) (N - t) 1]] = H3 := ⟨_, rfl⟩
  have f3 : Fr [] H2 H3 := by rw [← hH3]; exact .app
  have l3 : H3.length = H2.length + 1 := by rw [← hH3]; simp
  have C3 : H3[H2.length]? = some [w, .sl b t (bo + 1 - k - t) (N - t) 1] := by rw [← hH3]; simp
  have cc := concat2 C3 (x2.keep f3) (x1.keep f3) (by omega) (by omega)
  obtain ⟨H4, hH4⟩ : ∃ H4, H3 ++ [c2 ++ (cs.drop t).take (bo + 1 - k - t)] = H4 := ⟨_, rfl⟩
  rw [hH4] at cc
  have f4 : Fr [] H3 H4 := by rw [← hH4]; exact .app
  have D4 : H4[H3.length]? = some (c2 ++ (cs.drop t).take (bo + 1 - k - t)) := by rw [← hH4]; simp
  have f14 : Fr [] H1 H4 := f2.trans (f3.trans f4)
  have P4 := f14.blk P1 no_nil
  have B4 := f14.blk B1 no_nil
  have q4 := kload1_at (o := 1) (tot := 2) P4 rfl
  simp only [List.getElem?_cons_succ, List.getElem?_cons_zero] at q4
  have newl : (c2 ++ (cs.drop t).take (bo + 1 - k - t)).length = bo + 1 - t := by rw [List.length_append, hm1, hc2]; omega
  have kc := kcopy_in (top := t) B4 hcl D4 newl (by omega) (by rw [List.all_append, x2.cell, x1.cell]; rfl)
  have em : k + (bo + 1 - k - t) = bo + 1 - t := by omega
  rw [hm1, hc2, em] at cc
  rw [show t + (bo + 1 - t) = bo + 1 by omega] at kc
  obtain ⟨H5, hH5⟩ : ∃ H5, H4.set b (cs.take t ++ (c2 ++ (cs.drop t).take (bo + 1 - k - t)) ++ cs.drop (bo + 1)) = H5 := ⟨_, rfl⟩
  rw [hH5] at kc
  have f5 : Fr [b] H4 H5 := by rw [← hH5]; exact .set (by simp)
  have hbl4 := (List.getElem?_eq_some_iff.1 B4).1
  have B5 : H5[b]? = some (cs.take t ++ (c2 ++ (cs.drop t).take (bo + 1 - k - t)) ++ cs.drop (bo + 1)) := by rw [← hH5, List.getElem?_set_self hbl4]
  -- the rows
  have hRsm : ∀ i ∈ Rs.flatten, i < H.length := fun i hi => goodCellSS.mem hr i (List.mem_cons_of_mem _ hi)
  have hS3m : ∀ i ∈ S3.flatten, i < H2.length := All3.mem (fun a => goodCellS.mem a) ha2
  have ha5 : All3 (rCellS H5) (wr cs) rows Rs := All3.frame (fun a b => goodCellS.frame a b) ha fun i hi => by
    have hi1 := hRsm i hi
    have hib : i ≠ b := fun e => nd.1 (e ▸ hi)
    have hl4 := f14.1
    rw [f5.2 i (by omega) (by simpa using hib), f14.2 i (by omega) no_nil, f1.2 i hi1 no_nil]
  have ha52 : All3 (rCellS H5) (wr c2) (blanksM c s k) S3 := All3.frame (fun a b => goodCellS.frame a b) ha2 fun i hi => by
    have hi1 := hS3m i hi
    have hi2 := lo2 i hi
    have hl4 := (f3.trans f4).1
    rw [f5.2 i (by omega) (by simp; omega), (f3.trans f4).2 i hi1 no_nil]
  have hall : All3 (rCellS H5) (wr (cs.take t ++ (c2 ++ (cs.drop t).take (bo + 1 - k - t)) ++ cs.drop (bo + 1))) (downR rows t bo k (blanksM c s k)) (Rs.take t ++ (S3 ++ (Rs.drop t).take (bo + 1 - k - t)) ++ Rs.drop (bo + 1)) := by
    unfold downR
    rw [wr_app, wr_app, wr_app, ← wr_take, ← wr_take, ← wr_drop, ← wr_drop]
    exact (((ha5.take t).app (ha52.app ((ha5.drop t).take _))).app (ha5.drop (bo + 1)))
  have hlen := downR_len rows t bo k (blanksM c s k) (by omega) (by omega) (by omega) List.length_replicate
  have hR := parts_down Rs hkb
  have ndR : (Rs.take t ++ (S3 ++ (Rs.drop t).take (bo + 1 - k - t)) ++ Rs.drop (bo + 1)).flatten.Nodup := by
    have h := nd.2
    rw [hR] at h
    simp only [List.flatten_append] at h ⊢
    refine nodup_down h nd2 fun i hi h' => ?_
    have h1 : i ∈ Rs.flatten := by rw [hR]; simpa only [List.flatten_append] using h'
    have := hRsm i h1
    have := lo2 i hi
    omega
  have hin : ∀ i ∈ (Rs.take t ++ (S3 ++ (Rs.drop t).take (bo + 1 - k - t)) ++ Rs.drop (bo + 1)).flatten, i ∈ Rs.flatten ∨ H.length ≤ i := fun i hi => by
    simp only [List.flatten_append, List.mem_append] at hi
    rcases hi with (hi | hi | hi) | hi
    · exact Or.inl (fl_take i hi)
    · exact Or.inr (by have := lo2 i hi; omega)
    · exact Or.inl (fl_drop i (fl_take i hi))
    · exact Or.inl (fl_drop i hi)
  refine ⟨H5, b :: (Rs.take t ++ (S3 ++ (Rs.drop t).take (bo + 1 - k - t)) ++ Rs.drop (bo + 1)).flatten, ?_, f5.blk P4 (by simpa using fun e => hpR (by rw [e]; exact List.mem_cons_self ..)), ?_, ?_, fun i hi => ?_, ((f1.trans f14).sub (fun _ h => by cases h)).trans (f5.sub (by simp))⟩
  · apply S.impl_Grid_down.gives (k := 0)
    have g1 : kbin .sub (.int .i64 (bo : Int)) (.int .i64 (t : Int)) = some (.int .i64 ((bo : Int) - t)) := by rw [kbin_sub, wrap_id (by omega) (by omega)]
    have g2 : kbin .add (.int .i64 ((bo : Int) - t)) (.int .i64 1) = some (.int .i64 ((bo : Int) - t + 1)) := by rw [kbin_add, wrap_id (by omega) (by omega)]
    have g3 : gmin (.int .i64 n) (.int .i64 ((bo : Int) - t + 1)) = some (.int .i64 (k : Int)) := by rw [gmin_int, hk']; congr 2; rw [Int.min_def]; split <;> split <;> omega
    have g5 := kadd1 (n := bo) (by omega)
    have g6 : kbin .sub (.int .i64 ((bo + 1 : Nat) : Int)) (.int .i64 (k : Int)) = some (.int .i64 ((bo + 1 - k : Nat) : Int)) := by rw [kbin_sub, wrap_id (by omega) (by omega)]; congr 2; omega
    have s1 := ksl_mid (b := b) (n := N) (i := t) (j := bo + 1 - k) (by omega) (by omega)
    have q2 := kload1_at (o := 1) (tot := 2) P2 rfl
    simp only [List.getElem?_cons_succ, List.getElem?_cons_zero] at q2
    have hck : chk [(5, 9)] [⟨5, H1.length, H2.length, ⟨kborr H1 (.agg (gridC c vR)) ++ (kborr H1 (.int .i64 (k : Int)) ++ kborr H1 (.agg Z)), []⟩⟩, ⟨9, H2.length, H2.length, ⟨[p], []⟩⟩] = true := by
      have y0 : ¬ (H1.length ≤ p) := by omega
      simp [chk, meets, touches, y0]
    have s2 := ksl_from (b := b) (n := N) (i := t) (by omega)
    rw [← hv] at s1 s2
    have wc : ∀ {Q : Type} (K : GV → Heap → Option Q), kbs 2 1 [w, .sl b t (bo + 1 - k - t) (N - t) 1] H2 K = K (.sl H2.length 0 2 2 1) H3 := fun K => by rw [kbs_at, hH3]
    have gf : gfill (fun i => some (i, 1)) (zeros [GV.nils] 2) [(0, w), (1, .sl b t (bo + 1 - k - t) (N - t) 1)] = some [w, .sl b t (bo + 1 - k - t) (N - t) 1] := by
      simp [gfill, zeros, wc1, wc2]
    unfold S.impl_Grid_down.run S.impl_Grid_down.n0
    rw [hbox]
    simp [g1, g2, g3, knil, q1, q2, g6, g5, s1, hck, qA, qZ, t2, gf, wc, cc, q4, s2, kc, -kF_OO, -kbin_sub, -kbin_add, -gmin_int, -kload1_ptr, -kloadA_ptr, -Int.natCast_add]
  · rw [hv]
    exact rows_close B5 hall (by rw [hlen, hN])
  · rw [List.nodup_cons]
    refine ⟨fun h => ?_, ndR⟩
    rcases hin b h with h | h
    · exact nd.1 h
    · omega
  · rcases List.mem_cons.1 hi with rfl | hi
    · exact Or.inl (List.mem_cons_self ..)
    · exact (hin i hi).imp (List.mem_cons_of_mem _) id
end Go.Proofs.Ytlbnioapepelnaa.G
