/- Records of a disk: what FnRecords asks of them; what it draws. -/
import Derived.Test.YtklhdbkaejbajaaDoorTRecs2
import Derived.Test.YtklhdbkaejbajaaDoorTDrawB
import Derived.Test.YtklhdbkaejbajaaDoorSL
namespace Go.Proofs.YtklhdbkaejbajaaDoor.G
open Go.RowKit Go.Lib
set_option linter.unusedVariables false
set_option linter.unusedSimpArgs false

/-! The records of a disk, in plain words. -/
theorem recs_cat : ∀ (f : Nat) (d : List UInt8), (recsGo f d).1.flatMap recM = d.take (recsGo f d).2 ∧ (recsGo f d).2 ≤ d.length
  | 0, d => ⟨by simp [recsGo], Nat.zero_le _⟩
  | f + 1, d => by
    by_cases hx : ∃ t, Begins d t
    · obtain ⟨t, ht⟩ := hx
      rw [recsGo_pos ht]
      obtain ⟨a1, a2⟩ := recs_cat f (d.drop (recM t).length)
      have b := ht.2.1
      rw [List.length_drop] at a2
      refine ⟨?_, by simp only; omega⟩
      simp only
      rw [List.flatMap_cons, a1, List.take_add, ht.2.2]
    · rw [recsGo_neg fun t ht => hx ⟨t, ht⟩]
      exact ⟨by simp, Nat.zero_le _⟩
theorem recs_pre : ∀ (f f' : Nat) (d : List UInt8) (k : Nat), f ≤ f' → (recsGo f (d.take k)).1 <+: (recsGo f' d).1 ∧ (recsGo f (d.take k)).2 ≤ (recsGo f' d).2
  | 0, f', d, k, _ => ⟨by simp [recsGo], Nat.zero_le _⟩
  | f + 1, 0, d, k, h => by omega
  | f + 1, f' + 1, d, k, h => by
    by_cases hx : ∃ t, Begins (d.take k) t
    · obtain ⟨t, ht⟩ := hx
      have hb := ht.2.1
      rw [List.length_take] at hb
      have ht' : Begins d t := ⟨ht.1, by omega, by have := ht.2.2; rw [List.take_take, Nat.min_eq_left (by omega)] at this; exact this⟩
      rw [recsGo_pos ht, recsGo_pos ht', List.drop_take]
      obtain ⟨a1, a2⟩ := recs_pre f f' (d.drop (recM t).length) (k - (recM t).length) (by omega)
      exact ⟨by simpa using a1, by simp only; omega⟩
    · rw [recsGo_neg fun t ht => hx ⟨t, ht⟩]
      exact ⟨by simp, Nat.zero_le _⟩
theorem begins_rec {t R : List UInt8} (h : t.length ≤ 5000) : Begins (recM t ++ R) t := ⟨h, by simp, by simp⟩
theorem no_begins {b : UInt8} (t : List UInt8) : ¬ Begins [b] t := fun h => by
  have h2 := h.2.1
  rw [recM_eq h.1] at h2
  simp only [List.length_append, List.length_cons, List.length_nil] at h2
  omega
theorem recs_two {t r : List UInt8} {b : UInt8} (ht : t.length ≤ 5000) (hr : r.length ≤ 5000) (f : Nat) : recsGo (f + 3) (recM t ++ recM r ++ [b]) = ([t, r], (recM t ++ recM r).length) := by
  have e1 : Begins (recM t ++ recM r ++ [b]) t := by rw [List.append_assoc]; exact begins_rec ht
  rw [recsGo_pos e1]
  have e2 : (recM t ++ recM r ++ [b]).drop (recM t).length = recM r ++ [b] := by rw [List.append_assoc, List.drop_left]
  rw [e2, recsGo_pos (begins_rec hr), List.drop_left, recsGo_neg fun t => no_begins t]
  simp

/-! Texts in memory that are read. -/
theorem all3_flat {α : Type} {mk : α → List GV} {h : Heap} {css : List (List GV)} {xs : List α} {Rs : List (List Nat)} (ha : All3 (RFl mk h) css xs Rs) : css.flatten = xs.flatMap mk := by
  induction ha with
  | nil => rfl
  | cons a _ ih => rw [List.flatten_cons, List.flatMap_cons, ih, a.1]
theorem texts_at {v : GV} {xs : List ByteArray} {h : Heap} {R : List Nat} (hv : rTexts h [v] xs R) {j : Nat} (hj : j < xs.length) : ∃ q, kia 1 v (.int .i64 (j : Nat)) = some q ∧ kload1 h q = some (.str xs[j]) := by
  rcases hv with ⟨rfl, _, _⟩ | ⟨b, css, Rs, hv, hb, ha, _⟩
  · cases hj
  · simp only [List.cons.injEq, and_true] at hv
    subst hv
    rw [all3_flat ha] at hb
    have fl : ∀ l : List ByteArray, l.flatMap cs = l.map GV.str := fun l => by induction l with | nil => rfl | cons a l ih => rw [List.flatMap_cons, ih]; rfl
    rw [fl] at hb
    refine ⟨.ptr b j xs.length, by rw [kia_sl, if_pos ⟨rfl, by omega, by omega⟩]; simp, ?_⟩
    rw [kload1_at hb (by simp), List.getElem?_map, get_of hj]
    rfl
theorem texts_len {v : GV} {xs : List ByteArray} {h : Heap} {R : List Nat} (hv : rTexts h [v] xs R) : klen v = some (.int .i64 (xs.length : Nat)) := RSl.len hv

/-! The functions of the law. -/
def clampN (k : Int) (n : Nat) : Nat := (max 0 (min k n)).toNat
theorem clampN_le (k : Int) (n : Nat) : clampN k n ≤ n := by unfold clampN; omega
theorem impl_first_spec (s : List UInt8) (k : Int) (hs : s.length ≤ 1048576) : NN fn.impl_first [.str (bs s), .int .i64 k] = some (.str (bs (s.take (clampN k s.length)))) := by
  apply S.impl_first.gives (k := 0)
  have kl := klenS_bs s
  have g1 : (gmin (.int .i64 k) (.int .i64 (s.length : Nat))).bind (fun v => gmax (.int .i64 0) v) = some (.int .i64 (clampN k s.length : Nat)) := by
    rw [gmin_int, Option.bind_some, gmax_int]
    congr 2
    unfold clampN
    split <;> split <;> omega
  obtain ⟨x, e1, e2⟩ := Option.bind_eq_some_iff.1 g1
  have sl := slS_to (l := s) (clampN_le k s.length)
  have fT := fun h => finN_bs (s.take (clampN k s.length)) h
  generalize GV.str (bs (s.take (clampN k s.length))) = T at *
  generalize GV.str (bs s) = Z at *
  generalize GV.int .i64 (clampN k s.length : Nat) = C at *
  generalize GV.int .i64 (s.length : Nat) = L at *
  simp [S.impl_first.run, kl, e1, e2, sl, fT, -gmin_int, -gmax_int]
theorem spec_l1Min_spec (a b : Int) : NN fn.spec_l1Min [.int .i64 a, .int .i64 b] = some (.int .i64 (min a b)) := by
  apply S.spec_l1Min.gives (k := 0)
  by_cases h : a < b
  · simp [S.spec_l1Min.run, h]; omega
  · simp [S.spec_l1Min.run, h]; omega
theorem spec_l16Cut_spec (s : List UInt8) (k : Int) (hs : s.length ≤ 1048576) : NN fn.spec_l16Cut [.str (bs s), .int .i64 k] = some (.str (bs (s.take (clampN k s.length)))) := by
  apply S.spec_l16Cut.gives (k := 0)
  have kl := klenS_bs s
  have k1 : ∀ H, kN NN fn.spec_l1Min [.int .i64 k, .int .i64 (s.length : Nat)] H = _ := fun H => kN_at (by simp) (spec_l1Min_spec k s.length)
  have k2 : ∀ H, kN NN fn.spec_l1Max [.int .i64 0, .int .i64 (min k s.length)] H = some (.int .i64 (clampN k s.length : Nat)) := fun H => kN_at (xs := [.int .i64 0, .int .i64 (min k s.length)]) (by simp) (by rw [spec_l1Max_spec]; congr 2; unfold clampN; omega)
  have sl := slS_to (l := s) (clampN_le k s.length)
  have fT := fun h => finN_bs (s.take (clampN k s.length)) h
  generalize GV.str (bs (s.take (clampN k s.length))) = T at *
  generalize GV.str (bs s) = Z at *
  generalize GV.int .i64 (clampN k s.length : Nat) = C at *
  generalize GV.int .i64 (s.length : Nat) = L at *
  generalize GV.int .i64 (min k (s.length : Int)) = M at *
  simp [S.spec_l16Cut.run, kl, k1, k2, sl, fT, -kN_eq]
def tornM (d : List UInt8) (k : Int) (m : List UInt8) (b : Int) : List UInt8 := d.take (clampN k d.length) ++ m.take (clampN b m.length)
theorem torn_words (d : List UInt8) (k : Int) (m : List UInt8) (b : Int) (hd : d.length ≤ 1048576) (hm : m.length ≤ 1048576) : kbin .add (.str (bs (d.take (clampN k d.length)))) (.str (bs (m.take (clampN b m.length)))) = some (.str (bs (tornM d k m b))) :=
  kadd_bs (by rw [List.length_take, List.length_take]; simp only [maxLen]; omega)
theorem impl_Torn_spec (d : List UInt8) (k : Int) (m : List UInt8) (b : Int) (hd : d.length ≤ 1048576) (hm : m.length ≤ 1048576) : NN fn.impl_Torn [.str (bs d), .int .i64 k, .str (bs m), .int .i64 b] = some (.str (bs (tornM d k m b))) := by
  apply S.impl_Torn.gives (k := 0)
  have k1 : ∀ H, kN NN fn.impl_first [.str (bs d), .int .i64 k] H = _ := fun H => kN_at (by simp) (impl_first_spec d k hd)
  have k2 : ∀ H, kN NN fn.impl_first [.str (bs m), .int .i64 b] H = _ := fun H => kN_at (by simp) (impl_first_spec m b hm)
  have ad := torn_words d k m b hd hm
  have fT := fun h => finN_bs (tornM d k m b) h
  generalize GV.str (bs (tornM d k m b)) = T at *
  generalize GV.str (bs (d.take (clampN k d.length))) = A at *
  generalize GV.str (bs (m.take (clampN b m.length))) = B at *
  generalize GV.str (bs d) = D at *
  generalize GV.str (bs m) = M at *
  simp [S.impl_Torn.run, k1, k2, ad, fT, -kN_eq]
theorem spec_Torn_spec (d : List UInt8) (k : Int) (m : List UInt8) (b : Int) (hd : d.length ≤ 1048576) (hm : m.length ≤ 1048576) : NN fn.spec_Torn [.str (bs d), .int .i64 k, .str (bs m), .int .i64 b] = some (.str (bs (tornM d k m b))) := by
  apply S.spec_Torn.gives (k := 0)
  have k1 : ∀ H, kN NN fn.spec_l16Cut [.str (bs d), .int .i64 k] H = _ := fun H => kN_at (by simp) (spec_l16Cut_spec d k hd)
  have k2 : ∀ H, kN NN fn.spec_l16Cut [.str (bs m), .int .i64 b] H = _ := fun H => kN_at (by simp) (spec_l16Cut_spec m b hm)
  have ad := torn_words d k m b hd hm
  have fT := fun h => finN_bs (tornM d k m b) h
  generalize GV.str (bs (tornM d k m b)) = T at *
  generalize GV.str (bs (d.take (clampN k d.length))) = A at *
  generalize GV.str (bs (m.take (clampN b m.length))) = B at *
  generalize GV.str (bs d) = D at *
  generalize GV.str (bs m) = M at *
  simp [S.spec_Torn.run, k1, k2, ad, fT, -kN_eq]
theorem laws_likeTexts_spec (xs : List ByteArray) (hx : xs.length ≤ 1048576) : NN fn.laws_likeTexts [fzl true 1 cs xs, fzl true 1 cs xs] = some (.bool true) := by
  have kl : klen (fzl true 1 cs xs) = some (.int .i64 (xs.length : Nat)) := klen_fzl
  have key := loopTo (n := xs.length) (m := xs.length + 1) (f := fun r j => S.laws_likeTexts.l6 (xs.length + 1) (fun x v4 h => kb 0 x fun x => kx x (S.laws_likeTexts.n3 (xs.length + 1) (fun x v4 h => kend x (finN v4 h)) h) (kend x (finN v4 h))) r (fzl true 1 cs xs) (fzl true 1 cs xs) (.bool false) (.int .i64 (j : Nat)) []) (A := some (.bool true))
    (fun j r hj => by
      have h1 : (j : Int) < xs.length := by omega
      have lt : kbin .lss (.int .i64 (j : Nat)) (.int .i64 (xs.length : Nat)) = some (.bool true) := by rw [kbin_lss, decide_eq_true h1]
      have ki : kia 1 (fzl true 1 cs xs) (.int .i64 (j : Nat)) = some (elp true cs xs j) := by rw [kia_cs, if_pos ⟨by omega, h1⟩]; simp
      have ld : kload1 [] (elp true cs xs j) = some (.str xs[j]) := by rw [kload1_cs, get_of hj]; rfl
      have ne : kbin .neq (.str xs[j]) (.str xs[j]) = some (.bool false) := by rw [kbin_sneq]; simp
      have ad : kbin .add (.int .i64 (j : Nat)) (.int .i64 1) = some (.int .i64 ((j + 1 : Nat) : Int)) := by rw [kbin_add, wrap_succ (by simp only [maxLen]; omega)]; rfl
      generalize fzl true 1 cs xs = X at *
      generalize elp true cs xs j = E at *
      generalize GV.int .i64 ((j + 1 : Nat) : Int) = J' at *
      generalize GV.int .i64 (j : Nat) = J at *
      generalize GV.str xs[j] = T at *
      simp [S.laws_likeTexts.l6, kl, lt, ki, ld, ne, ad])
    (fun r => by
      have lt : kbin .lss (.int .i64 (xs.length : Nat)) (.int .i64 (xs.length : Nat)) = some (.bool false) := by rw [kbin_lss, decide_eq_false (by omega)]
      generalize fzl true 1 cs xs = X at *
      generalize GV.int .i64 (xs.length : Nat) = L at *
      simp [S.laws_likeTexts.l6, kl, lt]) (by omega)
  apply S.laws_likeTexts.gives (k := xs.length + 1)
  refine Eq.trans ?_ key
  have ne : kbin .neq (.int .i64 (xs.length : Nat)) (.int .i64 (xs.length : Nat)) = some (.bool false) := by rw [kbin_neq]; simp
  generalize fzl true 1 cs xs = X at *
  generalize GV.int .i64 (xs.length : Nat) = L at *
  simp [S.laws_likeTexts.run, kl, ne]
theorem ksl_cs {xs : List ByteArray} {n : Nat} (hn : n ≤ xs.length) : ksl 1 (fzl true 1 cs xs) none (some (.int .i64 (n : Nat))) none = some (fzl true 1 cs (xs.take n)) := by
  cases xs with
  | nil =>
    have : n = 0 := by simpa using hn
    subst this
    rfl
  | cons x xs =>
    cases n with
    | zero =>
      simp only [fzl, List.take_zero, ksl, kslice, gslice, gopt, gint, true_or, if_true, Option.isSome_none, Bool.false_eq_true, false_and, if_false, Option.bind_eq_bind, Option.bind_some]
      rw [if_pos ⟨by omega, by omega, by omega, by omega⟩, if_pos (show ((0 : Nat) : Int) = 0 from rfl)]
    | succ n =>
      have hn' : n ≤ xs.length := by simpa using hn
      have e : fzl true 1 cs ((x :: xs).take (n + 1)) = .fz true (n + 1) 1 (((x :: xs).take (n + 1)).flatMap cs) := by
        rw [fzl_ne (by simp)]
        congr 1
        rw [List.length_take, List.length_cons, Nat.min_eq_left (by omega)]
      rw [e]
      simp only [fzl, ksl, kslice, gslice, gopt, gint, true_or, if_true, Option.isSome_none, Bool.false_eq_true, false_and, if_false, Option.bind_eq_bind, Option.bind_some]
      rw [if_pos ⟨by omega, by omega, by omega, by omega⟩, if_neg (by omega)]
      congr 2
      have fl : ∀ l : List ByteArray, l.flatMap cs = l.map GV.str := fun l => by induction l with | nil => rfl | cons a l ih => rw [List.flatMap_cons, ih]; rfl
      rw [fl, fl, List.map_take]
      simp
theorem laws_begins_spec (xs : List ByteArray) (n : Nat) (hn : n ≤ xs.length) (hx : xs.length ≤ 1048576) : NN fn.laws_begins [fzl true 1 cs xs, fzl true 1 cs (xs.take n)] = some (.bool true) := by
  have kl : klen (fzl true 1 cs xs) = some (.int .i64 (xs.length : Nat)) := klen_fzl
  have kl2 : klen (fzl true 1 cs (xs.take n)) = some (.int .i64 (n : Nat)) := by rw [klen_fzl, List.length_take, Nat.min_eq_left hn]
  have le : kbin .leq (.int .i64 (n : Nat)) (.int .i64 (xs.length : Nat)) = some (.bool true) := by rw [kbin_leq, decide_eq_true (by omega)]
  have sl := ksl_cs hn
  have lk : ∀ H, kN NN fn.laws_likeTexts [fzl true 1 cs (xs.take n), fzl true 1 cs (xs.take n)] H = some (.bool true) := fun H => kN_at (xs := [fzl true 1 cs (xs.take n), fzl true 1 cs (xs.take n)]) (by simp) (laws_likeTexts_spec _ (by rw [List.length_take]; omega))
  apply S.laws_begins.gives (k := 0)
  generalize fzl true 1 cs (xs.take n) = Y at *
  generalize fzl true 1 cs xs = X at *
  generalize GV.int .i64 (xs.length : Nat) = L at *
  generalize GV.int .i64 (n : Nat) = M at *
  simp [S.laws_begins.run, kl, kl2, le, sl, lk, -kN_eq]
theorem laws_pick_spec (code : List UInt8) (n : Int) (hl : code.length ≤ 1048576) (hn : n ≠ 0) : ∃ x : Int, NN fn.laws_pick [fzl true 1 cy code, .int .i64 1, .int .i64 n] = some (.int .i64 x) := by
  have kl : klen (fzl true 1 cy code) = some (.int .i64 (code.length : Nat)) := klen_fzl
  obtain ⟨y0, q0⟩ := kbin_ex .mul (by simp) 7919 1
  obtain ⟨h0, q1⟩ := kbin_ex .add (by simp) (code.length : Nat) y0
  have key := loop_inv (T := Int) (Inv := fun _ _ => True) (n := code.length) (f := fun r j x => S.laws_pick.l6 (code.length + 1) (fun x v2 v6 v7 h => kb 0 x fun x => kx x (S.laws_pick.n3 (code.length + 1) (fun x v6 h => kend x (finN v6 h)) v2 v7 h) (kend x (finN v6 h))) r (fzl true 1 cy code) (.int .i64 1) (.int .i64 n) (.int .i64 0) (.int .i64 x) (.int .i64 (j : Nat)) []) (A := fun x => (kbin .rem (.int .i64 x) (.int .i64 n)).bind fun v => finN v []) (m := code.length + 1)
    (fun j r x hj _ => by
      have h1 : (j : Int) < code.length := by omega
      have ki := kia_cy (code := code) (i := (j : Nat)) (by omega) h1
      have ld := kload1_cy (H := []) (code := code) (j := j) hj
      rw [show ((j : Nat) : Int).toNat = j by omega] at ki
      have w := wrap_succ (n := j) (by simp only [maxLen]; omega)
      obtain ⟨x1, e1⟩ := kbin_ex .mul (by simp) x 127
      obtain ⟨x2, e2⟩ := kbin_ex .add (by simp) x1 (code[j].toNat : Int)
      obtain ⟨x3, e3⟩ := kbin_ex .add (by simp) x2 1
      have e4 : kbin .rem (.int .i64 x3) (.int .i64 1000003) = some (.int .i64 (x3.tmod 1000003)) := kbin_rem (by omega)
      refine ⟨x3.tmod 1000003, ?_, trivial⟩
      have cv : kconvI .i64 (.int .u8 (code[j].toNat : Int)) = some (.int .i64 (code[j].toNat : Int)) := by rw [kconvI_int, wrap8_64]
      have lt : kbin .lss (.int .i64 (j : Nat)) (.int .i64 (code.length : Nat)) = some (.bool true) := by rw [kbin_lss, decide_eq_true h1]
      have ad : kbin .add (.int .i64 (j : Nat)) (.int .i64 1) = some (.int .i64 ((j + 1 : Nat) : Int)) := by rw [kbin_add, w]; rfl
      generalize fzl true 1 cy code = C at *
      generalize (code[j].toNat : Int) = B at *
      generalize GV.int .i64 ((j + 1 : Nat) : Int) = J' at *
      generalize GV.int .i64 (j : Nat) = J at *
      generalize GV.int .i64 (x3.tmod 1000003) = X4 at *
      simp [S.laws_pick.l6, kl, lt, ki, ld, cv, e1, e2, e3, e4, ad, -kbin_add, -kbin_mul])
    (fun r x _ => by
      have lt : kbin .lss (.int .i64 (code.length : Nat)) (.int .i64 (code.length : Nat)) = some (.bool false) := by rw [kbin_lss, decide_eq_false (by omega)]
      generalize fzl true 1 cy code = C at *
      generalize GV.int .i64 (code.length : Nat) = L at *
      simp [S.laws_pick.l6, kl, lt]) (s := h0) trivial (by omega)
  obtain ⟨x, k1, _⟩ := key
  refine ⟨x.tmod n, ?_⟩
  apply S.laws_pick.gives (k := code.length + 1)
  refine Eq.trans ?_ (k1.trans (by rw [kbin_rem hn]; rfl))
  generalize fzl true 1 cy code = C at *
  generalize GV.int .i64 (code.length : Nat) = L at *
  simp [S.laws_pick.run, kl, q0, q1, -kbin_add, -kbin_mul]
end Go.Proofs.YtklhdbkaejbajaaDoor.G
