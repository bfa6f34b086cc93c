/- Seals: what the program and the reference make of a key, a count and a text. -/
import Derived.Test.YtklhdbkaejbajaaDoorTBuf
import Derived.Test.YtklhdbkaejbajaaDoorTRec
namespace Go.Proofs.YtklhdbkaejbajaaDoor.G
open Go.RowKit Go.Lib
set_option linter.unusedVariables false
set_option linter.unusedSimpArgs false

theorem impl_in_spec (a b c : Int) : NN fn.impl_in [.int .i64 a, .int .i64 b, .int .i64 c] = some (.bool (decide (b ≤ a) && decide (a ≤ c))) := by
  apply S.impl_in.gives (k := 0)
  simp [S.impl_in.run]
  cases decide (b ≤ a) <;> cases decide (a ≤ c) <;> simp
theorem spec_l1In_spec (a b c : Int) : NN fn.spec_l1In [.int .i64 a, .int .i64 b, .int .i64 c] = some (.bool (decide (b ≤ a) && decide (a ≤ c))) := by
  apply S.spec_l1In.gives (k := 0)
  simp [S.spec_l1In.run]
  cases decide (b ≤ a) <;> cases decide (a ≤ c) <;> simp
/-- A key, a count and a size that are right. -/
def toldP (key : List UInt8) (count n : Int) : Bool := decide (key.length = 16) && (decide (0 ≤ count) && decide (count ≤ 1099511627776)) && (decide (0 ≤ n) && decide (n ≤ 4000))
theorem told_of {key : List UInt8} {count n : Int} (h : toldP key count n = true) : key.length = 16 ∧ 0 ≤ count ∧ count ≤ 1099511627776 ∧ 0 ≤ n ∧ n ≤ 4000 := by
  unfold toldP at h
  simp only [Bool.and_eq_true, decide_eq_true_eq] at h
  omega
theorem klenS_bs (l : List UInt8) : klenS (.str (bs l)) = some (.int .i64 (l.length : Nat)) := by rw [klenS_str, bs_size]
theorem dec16 (l : List UInt8) : decide ((l.length : Int) = 16) = decide (l.length = 16) := by
  rw [Bool.eq_iff_iff]; simp; omega
theorem impl_isSeal_spec (key : List UInt8) (count n : Int) : NN fn.impl_isSeal [.str (bs key), .int .i64 count, .int .i64 n] = some (.bool (toldP key count n)) := by
  apply S.impl_isSeal.gives (k := 0)
  have kl := klenS_bs key
  have d := dec16 key
  have i1 := impl_in_spec count 0 1099511627776
  have i2 := impl_in_spec n 0 4000
  unfold toldP
  generalize GV.str (bs key) = K at *
  generalize decide ((0:Int) ≤ count) = c1 at *
  generalize decide (count ≤ 1099511627776) = c2 at *
  generalize decide ((0:Int) ≤ n) = c3 at *
  generalize decide (n ≤ 4000) = c4 at *
  cases h : decide (key.length = 16)
  · rw [h] at d; simp [S.impl_isSeal.run, kl, d]
  · rw [h] at d
    have k1 : ∀ H, kN NN fn.impl_in [.int .i64 count, .int .i64 0, .int .i64 1099511627776] H = some (.bool (c1 && c2)) := fun H => kN_at (by simp) i1
    have k2 : ∀ H, kN NN fn.impl_in [.int .i64 n, .int .i64 0, .int .i64 4000] H = some (.bool (c3 && c4)) := fun H => kN_at (by simp) i2
    cases c1 <;> cases c2 <;> cases c3 <;> cases c4 <;> simp [S.impl_isSeal.run, kl, d, k1, k2, -kN_eq]
theorem spec_l14Told_spec (key : List UInt8) (count n : Int) (hn : 0 ≤ n) : NN fn.spec_l14Told [.str (bs key), .int .i64 count, .int .i64 n] = some (.bool (toldP key count n)) := by
  apply S.spec_l14Told.gives (k := 0)
  have kl := klenS_bs key
  have d := dec16 key
  have i1 := spec_l1In_spec count 0 1099511627776
  have i2 : kbin .leq (.int .i64 n) (.int .i64 4000) = some (.bool (decide (n ≤ 4000))) := kbin_leq
  unfold toldP
  rw [show decide ((0:Int) ≤ n) = true from decide_eq_true hn]
  generalize GV.str (bs key) = K at *
  generalize decide ((0:Int) ≤ count) = c1 at *
  generalize decide (count ≤ 1099511627776) = c2 at *
  generalize decide (n ≤ 4000) = c4 at *
  cases h : decide (key.length = 16)
  · rw [h] at d; simp [S.spec_l14Told.run, kl, d]
  · rw [h] at d
    have k1 : ∀ H, kN NN fn.spec_l1In [.int .i64 count, .int .i64 0, .int .i64 1099511627776] H = some (.bool (c1 && c2)) := fun H => kN_at (by simp) i1
    cases c1 <;> cases c2 <;> cases c4 <;> simp [S.spec_l14Told.run, kl, d, k1, i2, -kN_eq, -kbin_leq]

/-! The start. -/
def begM (s : Int) (key : List UInt8) (count : Int) : Int := mixM (sumGo s key) count
theorem impl_begun_spec (s : Int) (key : List UInt8) (count : Int) (hl : key.length ≤ 1048576) : NN fn.impl_begun [.int .i64 s, .str (bs key), .int .i64 count] = some (.int .i64 (begM s key count)) := by
  apply S.impl_begun.gives (k := key.length + 1)
  simp only [S.impl_begun.run, S.impl_begun.n0, S.impl_begun.n1, S.impl_begun.n3, klenS_bs, Option.bind_some, S.impl_begun.n4, S.impl_begun.n5]
  have key' := loop_inv (Inv := fun j (x : Int) => x = sumGo s (key.take j)) (n := key.length) (f := fun r j x => S.impl_begun.l5 (key.length + 1) (fun x v0 v2 v6 h => kb 0 x fun x => kx x (S.impl_begun.n2 (key.length + 1) (fun x v6 h => kend x (finN v6 h)) v0 v2 h) (kend x (finN v6 h))) r (.int .i64 x) (.str (bs key)) (.int .i64 count) (.int .i64 0) (.int .i64 (key.length : Nat)) (.int .i64 (j : Int)) []) (A := fun x => some (GV.int .i64 (mixM x count))) (m := key.length + 1)
    (fun j r x hj hs => ⟨sumGo s (key.take (j + 1)), by
      have h1 : (j : Int) < key.length := by omega
      have w := wrap_succ (n := j) (by simp only [maxLen]; omega)
      have kb := kbyte_nat (k := .i64) (l := key) hj
      have e : sumGo s (key.take (j + 1)) = mixM x key[j].toNat := by rw [hs]; exact foldl_take hj
      have k1 : ∀ H, kN NN fn.impl_Mix [.int .i64 x, .int .i64 (key[j].toNat : Int)] H = some (.int .i64 (mixM x key[j].toNat)) := fun H => kN_at (by simp) (impl_Mix_spec _ _)
      rw [e]
      generalize GV.str (bs key) = L at *
      simp [S.impl_begun.l5, h1, kb, wrap8_64, k1, w, -kN_eq], rfl⟩)
    (fun r x hs => by
      have k1 : ∀ H, kN NN fn.impl_Mix [.int .i64 x, .int .i64 count] H = some (.int .i64 (mixM x count)) := fun H => kN_at (by simp) (impl_Mix_spec _ _)
      simp [S.impl_begun.l5, k1, -kN_eq]) (s := s) rfl (by omega)
  obtain ⟨s', k1, k2⟩ := key'
  rw [List.take_length] at k2
  rw [k2] at k1
  exact k1
theorem spec_l14Begin_spec (s : Int) (key : List UInt8) (count : Int) (hl : key.length ≤ 1048576) : NN fn.spec_l14Begin [.str (bs key), .int .i64 count, .int .i64 s] = some (.int .i64 (begM s key count)) := by
  apply S.spec_l14Begin.gives (k := key.length + 1)
  simp only [S.spec_l14Begin.run, S.spec_l14Begin.n0, S.spec_l14Begin.n1, S.spec_l14Begin.n3, S.spec_l14Begin.n4, S.spec_l14Begin.n5]
  have key' := loop_inv (Inv := fun j (x : Int) => x = sumGo s (key.take j)) (n := key.length) (f := fun r j x => S.spec_l14Begin.l5 (key.length + 1) (fun x v1 v2 v6 h => kb 0 x fun x => kx x (S.spec_l14Begin.n2 (key.length + 1) (fun x v6 h => kend x (finN v6 h)) v1 v2 h) (kend x (finN v6 h))) r (.str (bs key)) (.int .i64 count) (.int .i64 x) (.int .i64 0) (.int .i64 (j : Int)) []) (A := fun x => some (GV.int .i64 (mixM x count))) (m := key.length + 1)
    (fun j r x hj hs => ⟨sumGo s (key.take (j + 1)), by
      have h1 : (j : Int) < key.length := by omega
      have w := wrap_succ (n := j) (by simp only [maxLen]; omega)
      have kb := kbyte_nat (k := .i64) (l := key) hj
      have kl := klenS_bs key
      have e : sumGo s (key.take (j + 1)) = mixM x key[j].toNat := by rw [hs]; exact foldl_take hj
      have k1 : ∀ H, kN NN fn.spec_Mix [.int .i64 x, .int .i64 (key[j].toNat : Int)] H = some (.int .i64 (mixM x key[j].toNat)) := fun H => kN_at (by simp) (spec_Mix_spec _ _)
      rw [e]
      generalize GV.str (bs key) = L at *
      simp [S.spec_l14Begin.l5, h1, kb, kl, wrap8_64, k1, w, -kN_eq], rfl⟩)
    (fun r x hs => by
      have kl := klenS_bs key
      have k1 : ∀ H, kN NN fn.spec_Mix [.int .i64 x, .int .i64 count] H = some (.int .i64 (mixM x count)) := fun H => kN_at (by simp) (spec_Mix_spec _ _)
      generalize GV.str (bs key) = L at *
      simp [S.spec_l14Begin.l5, kl, k1, -kN_eq]) (s := s) rfl (by omega)
  obtain ⟨s', k1, k2⟩ := key'
  rw [List.take_length] at k2
  rw [k2] at k1
  exact k1

/-! The mark. -/
def markGo (s : Int) (l : List UInt8) : Int := l.foldl (fun s b => mixM s (b.toNat + 1)) s
def markM (key : List UInt8) (count : Int) (text : List UInt8) : Int := if toldP key count text.length then markGo (mixM (begM 5 key count) text.length) text else -1
theorem wrap8_65 (b : UInt8) : IntKind.i64.wrap ((b.toNat : Int) + 1) = b.toNat + 1 := by
  have := u8_lt b
  exact wrap_id (by omega) (by omega)
theorem impl_Mark_spec (key : List UInt8) (count : Int) (text : List UInt8) (hl : key.length ≤ 1048576) (ht : text.length ≤ 1048576) : NN fn.impl_Mark [.str (bs key), .int .i64 count, .str (bs text)] = some (.int .i64 (markM key count text)) := by
  apply S.impl_Mark.gives (k := text.length + 1)
  have i1 : kN NN fn.impl_isSeal [.str (bs key), .int .i64 count, .int .i64 (text.length : Nat)] [] = some (.bool (toldP key count text.length)) := kN_at (by simp) (impl_isSeal_spec _ _ _)
  have kl := klenS_bs text
  unfold markM
  by_cases hT : toldP key count text.length = true
  case neg =>
    rw [if_neg hT]
    have hT' : toldP key count text.length = false := by simpa using hT
    rw [hT'] at i1
    generalize GV.str (bs text) = T at *
    generalize GV.str (bs key) = L at *
    simp [S.impl_Mark.run, kl, i1, -kN_eq]
  rw [if_pos hT]
  rw [hT] at i1
  have b1 : kN NN fn.impl_begun [.int .i64 5, .str (bs key), .int .i64 count] [] = some (.int .i64 (begM 5 key count)) := kN_at (by simp) (impl_begun_spec _ _ _ hl)
  have m1 : kN NN fn.impl_Mix [.int .i64 (begM 5 key count), .int .i64 (text.length : Nat)] [] = some (.int .i64 (mixM (begM 5 key count) text.length)) := kN_at (by simp) (impl_Mix_spec _ _)
  simp only [S.impl_Mark.run, S.impl_Mark.n0, S.impl_Mark.n1, kl, Option.bind_some, i1, kun_not, Bool.not_true, kcond_bool, cond_false, S.impl_Mark.n2, b1, m1, S.impl_Mark.n3, S.impl_Mark.n5, S.impl_Mark.n6, S.impl_Mark.n7]
  have key' := loop_inv (Inv := fun j (x : Int) => x = markGo (mixM (begM 5 key count) text.length) (text.take j)) (n := text.length) (f := fun r j x => S.impl_Mark.l7 (text.length + 1) (fun x v6 v7 h => kb 0 x fun x => kx x (S.impl_Mark.n4 (text.length + 1) (fun x v6 h => kend x (finN v6 h)) v7 h) (kend x (finN v6 h))) r (.str (bs text)) (.int .i64 0) (.int .i64 x) (.int .i64 (text.length : Nat)) (.int .i64 (j : Int)) []) (A := fun x => some (GV.int .i64 x)) (m := text.length + 1)
    (fun j r x hj hs => ⟨markGo (mixM (begM 5 key count) text.length) (text.take (j + 1)), by
      have h1 : (j : Int) < text.length := by omega
      have w := wrap_succ (n := j) (by simp only [maxLen]; omega)
      have kb := kbyte_nat (k := .i64) (l := text) hj
      have e : markGo (mixM (begM 5 key count) text.length) (text.take (j + 1)) = mixM x (text[j].toNat + 1) := by rw [hs]; exact foldl_take hj
      have k1 : ∀ H, kN NN fn.impl_Mix [.int .i64 x, .int .i64 ((text[j].toNat : Int) + 1)] H = some (.int .i64 (mixM x (text[j].toNat + 1))) := fun H => kN_at (by simp) (impl_Mix_spec _ _)
      rw [e]
      generalize GV.str (bs text) = L at *
      simp [S.impl_Mark.l7, h1, kb, wrap8_64, wrap8_65, k1, w, -kN_eq], rfl⟩)
    (fun r x hs => by simp [S.impl_Mark.l7]) (s := mixM (begM 5 key count) text.length) rfl (by omega)
  obtain ⟨s', k1, k2⟩ := key'
  rw [List.take_length] at k2
  rw [k2] at k1
  exact k1
theorem spec_Mark_spec (key : List UInt8) (count : Int) (text : List UInt8) (hl : key.length ≤ 1048576) (ht : text.length ≤ 1048576) : NN fn.spec_Mark [.str (bs key), .int .i64 count, .str (bs text)] = some (.int .i64 (markM key count text)) := by
  apply S.spec_Mark.gives (k := text.length + 1)
  have i1 : kN NN fn.spec_l14Told [.str (bs key), .int .i64 count, .int .i64 (text.length : Nat)] [] = some (.bool (toldP key count text.length)) := kN_at (by simp) (spec_l14Told_spec _ _ _ (by omega))
  have kl := klenS_bs text
  unfold markM
  by_cases hT : toldP key count text.length = true
  case neg =>
    rw [if_neg hT]
    have hT' : toldP key count text.length = false := by simpa using hT
    rw [hT'] at i1
    generalize GV.str (bs text) = T at *
    generalize GV.str (bs key) = L at *
    simp [S.spec_Mark.run, kl, i1, -kN_eq]
  rw [if_pos hT]
  rw [hT] at i1
  have b1 : kN NN fn.spec_l14Begin [.str (bs key), .int .i64 count, .int .i64 5] [] = some (.int .i64 (begM 5 key count)) := kN_at (by simp) (spec_l14Begin_spec _ _ _ hl)
  have m1 : kN NN fn.spec_Mix [.int .i64 (begM 5 key count), .int .i64 (text.length : Nat)] [] = some (.int .i64 (mixM (begM 5 key count) text.length)) := kN_at (by simp) (spec_Mix_spec _ _)
  simp only [S.spec_Mark.run, S.spec_Mark.n0, S.spec_Mark.n1, kl, Option.bind_some, i1, kun_not, Bool.not_true, kcond_bool, cond_false, S.spec_Mark.n2, b1, m1, S.spec_Mark.n3, S.spec_Mark.n5, S.spec_Mark.n6, S.spec_Mark.n7]
  have key' := loop_inv (Inv := fun j (x : Int) => x = markGo (mixM (begM 5 key count) text.length) (text.take j)) (n := text.length) (f := fun r j x => S.spec_Mark.l7 (text.length + 1) (fun x v6 v7 h => kb 0 x fun x => kx x (S.spec_Mark.n4 (text.length + 1) (fun x v6 h => kend x (finN v6 h)) v7 h) (kend x (finN v6 h))) r (.str (bs text)) (.int .i64 0) (.int .i64 x) (.int .i64 (j : Int)) []) (A := fun x => some (GV.int .i64 x)) (m := text.length + 1)
    (fun j r x hj hs => ⟨markGo (mixM (begM 5 key count) text.length) (text.take (j + 1)), by
      have h1 : (j : Int) < text.length := by omega
      have w := wrap_succ (n := j) (by simp only [maxLen]; omega)
      have kb := kbyte_nat (k := .i64) (l := text) hj
      have e : markGo (mixM (begM 5 key count) text.length) (text.take (j + 1)) = mixM x (text[j].toNat + 1) := by rw [hs]; exact foldl_take hj
      have k1 : ∀ H, kN NN fn.spec_Mix [.int .i64 x, .int .i64 ((text[j].toNat : Int) + 1)] H = some (.int .i64 (mixM x (text[j].toNat + 1))) := fun H => kN_at (by simp) (spec_Mix_spec _ _)
      rw [e]
      generalize GV.str (bs text) = L at *
      simp [S.spec_Mark.l7, h1, kb, kl, wrap8_64, wrap8_65, k1, w, -kN_eq], rfl⟩)
    (fun r x hs => by
      generalize GV.str (bs text) = L at *
      simp [S.spec_Mark.l7, kl]) (s := mixM (begM 5 key count) text.length) rfl (by omega)
  obtain ⟨s', k1, k2⟩ := key'
  rw [List.take_length] at k2
  rw [k2] at k1
  exact k1

/-! The stream. -/
def stM (s : Int) : Nat → Int
  | 0 => s
  | j + 1 => mixM (stM s j) 7
def strm (s : Int) (n : Nat) : List UInt8 := (List.range n).map fun j => UInt8.ofNat (stM s (j + 1) % 256).toNat
theorem strm_succ (s : Int) (n : Nat) : strm s (n + 1) = strm s n ++ [UInt8.ofNat (stM s (n + 1) % 256).toNat] := by
  unfold strm
  rw [List.range_succ, List.map_append]; rfl
theorem strm_len (s : Int) (n : Nat) : (strm s n).length = n := by simp [strm]
def streamM (key : List UInt8) (count : Int) (n : Nat) : List UInt8 := if toldP key count n then strm (begM 1 key count) n else []
theorem byte_words {x : Int} (h : 0 ≤ x) (c : UInt8) (hc : c = UInt8.ofNat (x % 256).toNat) : kbin .rem (.int .i64 x) (.int .i64 256) = some (.int .i64 (x % 256)) ∧ kconvI .u8 (.int .i64 (x % 256)) = some (.int .u8 (c.toNat : Int)) := by
  refine ⟨by rw [kbin_rem (by omega), Int.tmod_eq_emod_of_nonneg h], ?_⟩
  subst hc
  rw [kconvI_int, u8_of (by omega), wrap8 (by omega) (by omega)]
  congr 2; omega
theorem impl_Stream_spec (key : List UInt8) (count : Int) (n : Nat) (hl : key.length ≤ 1048576) (hn : n ≤ 1048576) : NN fn.impl_Stream [.str (bs key), .int .i64 count, .int .i64 (n : Int)] = some (.str (bs (streamM key count n))) := by
  apply S.impl_Stream.gives (k := n + 1)
  have i1 : kN NN fn.impl_isSeal [.str (bs key), .int .i64 count, .int .i64 (n : Int)] [] = some (.bool (toldP key count n)) := kN_at (by simp) (impl_isSeal_spec _ _ _)
  unfold streamM
  by_cases hT : toldP key count n = true
  case neg =>
    rw [if_neg hT]
    have hT' : toldP key count n = false := by simpa using hT
    rw [hT'] at i1
    generalize GV.str (bs key) = L at *
    simp [S.impl_Stream.run, i1, -kN_eq]
  rw [if_pos hT]
  rw [hT] at i1
  have b1 : kN NN fn.impl_begun [.int .i64 1, .str (bs key), .int .i64 count] [] = some (.int .i64 (begM 1 key count)) := kN_at (by simp) (impl_begun_spec _ _ _ hl)
  simp only [S.impl_Stream.run, S.impl_Stream.n0, S.impl_Stream.n1, i1, Option.bind_some, kun_not, Bool.not_true, kcond_bool, cond_false, S.impl_Stream.n2, b1, S.impl_Stream.n3, S.impl_Stream.n5, S.impl_Stream.n6, S.impl_Stream.n7]
  have hb := mixM_b (sumGo 1 key) count
  have key' := loop_inv (T := GV × Int × Heap) (Inv := fun j (x : GV × Int × Heap) => Buf x.1 (strm (begM 1 key count) j) x.2.2 ∧ x.2.1 = stM (begM 1 key count) j ∧ 0 ≤ x.2.1) (n := n) (f := fun r j x => S.impl_Stream.l7 (n + 1) (fun x v6 v7 h => kb 0 x fun x => kx x (S.impl_Stream.n4 (n + 1) (fun x v6 h => kend x (finN v6 h)) v7 h) (kend x (finN v6 h))) r (.str { data := #[] }) x.1 (.int .i64 x.2.1) (.int .i64 (n : Int)) (.int .i64 (j : Int)) x.2.2) (A := fun x => (kbstr x.2.2 x.1).bind fun v => finN v x.2.2) (m := n + 1)
    (fun j r x hj hs => by
      obtain ⟨v, s, h⟩ := x
      obtain ⟨h1, h2, h3⟩ := hs
      simp only at h1 h2 h3
      have hm := mixM_b s 7
      obtain ⟨c, hc⟩ : ∃ c, c = UInt8.ofNat (mixM s 7 % 256).toNat := ⟨_, rfl⟩
      obtain ⟨w1, w2⟩ := byte_words hm.1 c hc
      have hcl := strm_len (begM 1 key count) j
      obtain ⟨v', h', a1, a2⟩ := h1.app (m := [c]) (by simp) (by simp; omega)
      refine ⟨(v', mixM s 7, h'), ?_, ?_, by show mixM s 7 = mixM _ 7; rw [h2], hm.1⟩
      · have hj' : (j : Int) < n := by omega
        have w := wrap_succ (n := j) (by simp only [maxLen]; omega)
        have k1 : ∀ H, kN NN fn.impl_Mix [.int .i64 s, .int .i64 7] H = some (.int .i64 (mixM s 7)) := fun H => kN_at (by simp) (impl_Mix_spec _ _)
        have a1' : kapp [.int .u8 0] 1 1 v (.sl h.length 0 1 1 1) (h ++ [[GV.int .u8 (c.toNat : Int)]]) = some (v', h') := a1
        have gf := gfill_one' (v := .int .u8 (c.toNat : Int)) (z := [.int .u8 0]) rfl rfl
        generalize (c.toNat : Int) = x at *
        simp [S.impl_Stream.l7, hj', k1, w1, w2, gf, kbs_eq, a1', w, -kN_eq, -kconvI_int]
      · show Buf v' (strm _ (j + 1)) h'
        rw [strm_succ]
        have : UInt8.ofNat (stM (begM 1 key count) (j + 1) % 256).toNat = c := by rw [hc, show stM (begM 1 key count) (j + 1) = mixM (stM (begM 1 key count) j) 7 from rfl, ← h2]
        rw [this]
        exact a2)
    (fun r x hs => by
      obtain ⟨v, s, h⟩ := x
      simp [S.impl_Stream.l7]) (s := (.emp, begM 1 key count, [])) ⟨.nil, rfl, hb.1⟩ (by omega)
  obtain ⟨⟨v, s, h⟩, k1, k2, _⟩ := key'
  refine k1.trans ?_
  simp only [k2.str, Option.bind_some]
  rfl
theorem spec_Stream_spec (key : List UInt8) (count : Int) (n : Nat) (hl : key.length ≤ 1048576) (hn : n ≤ 1048576) : NN fn.spec_Stream [.str (bs key), .int .i64 count, .int .i64 (n : Int)] = some (.str (bs (streamM key count n))) := by
  apply S.spec_Stream.gives (k := n + 1)
  have i0 : kN NN fn.spec_l1In [.int .i64 (n : Int), .int .i64 0, .int .i64 4000] [] = some (.bool (decide ((0:Int) ≤ n) && decide ((n:Int) ≤ 4000))) := kN_at (by simp) (spec_l1In_spec _ _ _)
  have i1 : kN NN fn.spec_l14Told [.str (bs key), .int .i64 count, .int .i64 (n : Int)] [] = some (.bool (toldP key count n)) := kN_at (by simp) (spec_l14Told_spec _ _ _ (by omega))
  rw [show decide ((0:Int) ≤ (n:Int)) = true from decide_eq_true (by omega)] at i0
  unfold streamM
  by_cases hT : toldP key count n = true
  case neg =>
    rw [if_neg hT]
    have hT' : toldP key count n = false := by simpa using hT
    rw [hT'] at i1
    generalize GV.str (bs key) = L at *
    cases hd : decide ((n:Int) ≤ 4000) <;> rw [hd] at i0 <;> simp [S.spec_Stream.run, i0, i1, -kN_eq]
  rw [if_pos hT]
  rw [hT] at i1
  rw [show decide ((n:Int) ≤ 4000) = true from decide_eq_true (told_of hT).2.2.2.2] at i0
  have b1 : kN NN fn.spec_l14Begin [.str (bs key), .int .i64 count, .int .i64 1] [] = some (.int .i64 (begM 1 key count)) := kN_at (by simp) (spec_l14Begin_spec _ _ _ hl)
  have e0 : ∀ {R : Type} (k : Nat) (G : KT1 R), S.spec_Stream.n0 k G (.str (bs key)) (.int .i64 count) (.int .i64 (n : Int)) [] = S.spec_Stream.n3 k G (.str (bs key)) (.int .i64 count) (.int .i64 (n : Int)) (.str { data := #[] }) .emp [] := by
    intro R k G
    generalize GV.str (bs key) = L at *
    simp [i0, i1, -kN_eq, -S.spec_Stream.n3]
  simp only [S.spec_Stream.run, e0, S.spec_Stream.n3, b1, Option.bind_some, S.spec_Stream.n4, S.spec_Stream.n6, S.spec_Stream.n7]
  have hb := mixM_b (sumGo 1 key) count
  have key' := loop_inv (T := GV × Int × Heap) (Inv := fun j (x : GV × Int × Heap) => Buf x.1 (strm (begM 1 key count) j) x.2.2 ∧ x.2.1 = stM (begM 1 key count) j ∧ 0 ≤ x.2.1) (n := n) (f := fun r j x => S.spec_Stream.l7 (n + 1) (fun x v6 v7 h => kb 0 x fun x => kx x (S.spec_Stream.n5 (n + 1) (fun x v6 h => kend x (finN v6 h)) v7 h) (kend x (finN v6 h))) r (.int .i64 ((n : Int) - j)) (.str { data := #[] }) x.1 (.int .i64 x.2.1) x.2.2) (A := fun x => (kbstr x.2.2 x.1).bind fun v => finN v x.2.2) (m := n + 1)
    (fun j r x hj hs => by
      obtain ⟨v, s, h⟩ := x
      obtain ⟨h1, h2, h3⟩ := hs
      simp only at h1 h2 h3
      have hm := mixM_b s 7
      obtain ⟨c, hc⟩ : ∃ c, c = UInt8.ofNat (mixM s 7 % 256).toNat := ⟨_, rfl⟩
      obtain ⟨w1, w2⟩ := byte_words hm.1 c hc
      have hcl := strm_len (begM 1 key count) j
      obtain ⟨v', h', a1, a2⟩ := h1.app (m := [c]) (by simp) (by simp; omega)
      refine ⟨(v', mixM s 7, h'), ?_, ?_, by show mixM s 7 = mixM _ 7; rw [h2], hm.1⟩
      · have e : (n : Int) - ((j + 1 : Nat) : Int) = (n : Int) - j - 1 := by omega
        simp only [e]
        have hj' : (0 : Int) < (n : Int) - j := by omega
        have w : IntKind.i64.wrap ((n : Int) - j - 1) = (n : Int) - j - 1 := wrap_id (by omega) (by omega)
        generalize (n : Int) - j = d at *
        have k1 : ∀ H, kN NN fn.spec_Mix [.int .i64 s, .int .i64 7] H = some (.int .i64 (mixM s 7)) := fun H => kN_at (by simp) (spec_Mix_spec _ _)
        have a1' : kapp [.int .u8 0] 1 1 v (.sl h.length 0 1 1 1) (h ++ [[GV.int .u8 (c.toNat : Int)]]) = some (v', h') := a1
        have gf := gfill_one' (v := .int .u8 (c.toNat : Int)) (z := [.int .u8 0]) rfl rfl
        generalize (c.toNat : Int) = x at *
        simp [S.spec_Stream.l7, hj', k1, w1, w2, gf, kbs_eq, a1', w, -kN_eq, -kconvI_int]
      · show Buf v' (strm _ (j + 1)) h'
        rw [strm_succ]
        have : UInt8.ofNat (stM (begM 1 key count) (j + 1) % 256).toNat = c := by rw [hc, show stM (begM 1 key count) (j + 1) = mixM (stM (begM 1 key count) j) 7 from rfl, ← h2]
        rw [this]
        exact a2)
    (fun r x hs => by
      obtain ⟨v, s, h⟩ := x
      simp [S.spec_Stream.l7]) (s := (.emp, begM 1 key count, [])) ⟨.nil, rfl, hb.1⟩ (by omega)
  obtain ⟨⟨v, s, h⟩, k1, k2, _⟩ := key'
  have k1' := k1
  simp only [Int.natCast_zero, Int.sub_zero] at k1'
  refine k1'.trans ?_
  simp only [k2.str, Option.bind_some]
  rfl

/-! Texts and streams. -/
/-- The first j bytes are done. -/
def xorTo (l m : List UInt8) (j : Nat) : List UInt8 := List.zipWith (· ^^^ ·) (l.take j) (m.take j) ++ l.drop j
theorem xorTo_len {l m : List UInt8} {j : Nat} (h : l.length = m.length) : (xorTo l m j).length = l.length := by
  unfold xorTo
  rw [List.length_append, List.length_zipWith, List.length_take, List.length_take, List.length_drop]; omega
theorem xorTo_get {l m : List UInt8} {j : Nat} (h : l.length = m.length) (hj : j < l.length) : (xorTo l m j)[j]'(by rw [xorTo_len h]; exact hj) = l[j] := by
  have e : (List.zipWith (· ^^^ ·) (l.take j) (m.take j)).length = j := by rw [List.length_zipWith, List.length_take, List.length_take]; omega
  unfold xorTo
  rw [List.getElem_append_right (by omega)]
  simp only [e, Nat.sub_self, List.getElem_drop, Nat.add_zero]
theorem xorTo_set {l m : List UInt8} {j : Nat} (h : l.length = m.length) (hj : j < l.length) : (xorTo l m j).set j (l[j] ^^^ m[j]'(by omega)) = xorTo l m (j + 1) := by
  have e : (List.zipWith (· ^^^ ·) (l.take j) (m.take j)).length = j := by rw [List.length_zipWith, List.length_take, List.length_take]; omega
  have hm : j < m.length := by omega
  unfold xorTo
  rw [List.set_append_right _ _ (by omega), e, Nat.sub_self, List.drop_eq_getElem_cons hj, List.set_cons_zero]
  rw [List.take_add_one, List.take_add_one, List.getElem?_eq_getElem hj, List.getElem?_eq_getElem hm]
  simp only [Option.toList_some]
  rw [List.zipWith_append (by rw [List.length_take, List.length_take]; omega)]
  simp
def xorL (l m : List UInt8) : List UInt8 := List.zipWith (· ^^^ ·) l m
theorem xorTo_all {l m : List UInt8} (h : l.length = m.length) : xorTo l m l.length = xorL l m := by
  unfold xorTo xorL
  rw [List.drop_length, List.append_nil, List.take_length]
  conv => lhs; rw [h, List.take_length]
theorem xorTo_zero {l m : List UInt8} : xorTo l m 0 = l := by simp [xorTo]
theorem xorL_comm (l m : List UInt8) : xorL l m = xorL m l := by
  unfold xorL
  rw [List.zipWith_comm]
  congr 1
  funext a b
  exact UInt8.xor_comm _ _
theorem kxor8 (a b : UInt8) : kbin .xor (.int .u8 (a.toNat : Int)) (.int .u8 (b.toNat : Int)) = some (.int .u8 ((a ^^^ b).toNat : Int)) := by
  have e : ∀ c : UInt8, BitVec.ofInt 8 (c.toNat : Int) = c.toBitVec := fun c => by
    rw [BitVec.ofInt_natCast]
    exact BitVec.eq_of_toNat_eq (by simp)
  have hlt := (a ^^^ b).toNat_lt
  simp only [kbin, if_true]
  rw [show IntKind.bits .u8 = 8 from rfl, e, e, show (a.toBitVec ^^^ b.toBitVec).toNat = (a ^^^ b).toNat from rfl, wrap8 (by omega) (by omega)]
/-- A loop that xors in memory, in general. -/
theorem spec_l14Xor_spec (l m : List UInt8) (h : l.length = m.length) (hl : l.length ≤ 1048576) : NN fn.spec_l14Xor [.str (bs l), .str (bs m)] = some (.str (bs (xorL l m))) := by
  apply S.spec_l14Xor.gives (k := l.length + 1)
  have kb0 : ∀ {R : Type} (H : Heap) (K : GV → Heap → Option R), kby (bs l) H K = K (.sl H.length 0 l.length l.length 1) (H ++ [l.flatMap cy]) := fun H K => by rw [kby_eq, bs_size, kbytes_bs]
  simp only [S.spec_l14Xor.run, S.spec_l14Xor.n0, S.spec_l14Xor.n1, kstr_str, Option.bind_some, kb0, S.spec_l14Xor.n2, S.spec_l14Xor.n4, S.spec_l14Xor.n5, S.spec_l14Xor.n6, List.length_nil, List.nil_append]
  have key := loop_inv (T := Heap) (Inv := fun j H => H[0]? = some ((xorTo l m j).flatMap cy)) (n := l.length) (f := fun r j H => S.spec_l14Xor.l6 (l.length + 1) (fun x v4 v5 h => kb 0 x fun x => kx x (S.spec_l14Xor.n3 (l.length + 1) (fun x v4 h => kend x (finN v4 h)) v5 h) (kend x (finN v4 h))) r (.str (bs m)) (.str { data := #[] }) (.sl 0 0 l.length l.length 1) (.int .i64 (j : Int)) H) (A := fun H => (kbstr H (.sl 0 0 l.length l.length 1)).bind fun v => finN v H) (m := l.length + 1)
    (fun j r H hj hs => by
      have hln := xorTo_len (j := j) h
      have hj' : (j : Int) < l.length := by omega
      have hjm : j < m.length := by omega
      have w := wrap_succ (n := j) (by simp only [maxLen]; omega)
      have ld := byte_load hs (j := j) (by omega)
      rw [xorTo_get h hj, hln] at ld
      have st := byte_store hs (j := j) (by omega) (c := l[j] ^^^ m[j]) (x := ((l[j] ^^^ m[j]).toNat : Int)) rfl
      rw [hln, xorTo_set h hj] at st
      have ki := kia_byte (k := .i64) (b := 0) hj
      have kb := kbyte_nat (k := .i64) (l := m) hjm
      have xr := kxor8 l[j] m[j]
      refine ⟨H.set 0 ((xorTo l m (j + 1)).flatMap cy), ?_, ?_⟩
      · generalize GV.str (bs m) = M at *
        generalize ((l[j] ^^^ m[j]).toNat : Int) = x at *
        generalize (l[j].toNat : Int) = y at *
        generalize (m[j].toNat : Int) = z at *
        simp [S.spec_l14Xor.l6, hj', ki, ld, kb, xr, st, w, -kia_sl, -kload1_ptr, -kstore_ptr]
      · have := (List.getElem?_eq_some_iff.1 hs).1
        rw [List.getElem?_set_self this])
    (fun r H hs => by simp [S.spec_l14Xor.l6]) (s := [l.flatMap cy]) (by rw [xorTo_zero]; rfl) (by omega)
  obtain ⟨H, k1, k2⟩ := key
  refine k1.trans ?_
  rw [xorTo_all h] at k2
  have e := kbstr_at (h := H) (b := 0) (rest := []) (R := []) (l := xorL l m) (c := l.length) (n := l.length) (by simpa using k2) (by simp [xorL, h]) (by simp [xorL, h])
  rw [e]
  rfl
theorem impl_xored_spec (key : List UInt8) (count : Int) (l : List UInt8) (hk : key.length ≤ 1048576) (hl : l.length ≤ 1048576) (hT : toldP key count l.length = true) : NN fn.impl_xored [.str (bs key), .int .i64 count, .str (bs l)] = some (.str (bs (xorL l (streamM key count l.length)))) := by
  apply S.impl_xored.gives (k := l.length + 1)
  obtain ⟨m, hm⟩ : ∃ m, streamM key count l.length = m := ⟨_, rfl⟩
  have hml : m.length = l.length := by rw [← hm]; unfold streamM; rw [if_pos hT, strm_len]
  have st1 : kN NN fn.impl_Stream [.str (bs key), .int .i64 count, .int .i64 (l.length : Nat)] [] = some (.str (bs m)) := by rw [← hm]; exact kN_at (by simp) (impl_Stream_spec _ _ _ hk hl)
  rw [hm, xorL_comm]
  have kb0 : ∀ {R : Type} (H : Heap) (K : GV → Heap → Option R), kby (bs m) H K = K (.sl H.length 0 m.length m.length 1) (H ++ [m.flatMap cy]) := fun H K => by rw [kby_eq, bs_size, kbytes_bs]
  rw [← hml]
  simp only [S.impl_xored.run, S.impl_xored.n0, S.impl_xored.n1, klenS_bs, Option.bind_some, st1, kstr_str, kb0, S.impl_xored.n2, S.impl_xored.n4, klen_sl, S.impl_xored.n5, S.impl_xored.n6, List.length_nil, List.nil_append]
  have key := loop_inv (T := Heap) (Inv := fun j H => H[0]? = some ((xorTo m l j).flatMap cy)) (n := m.length) (f := fun r j H => S.impl_xored.l6 (m.length + 1) (fun x v6 v7 h => kb 0 x fun x => kx x (S.impl_xored.n3 (m.length + 1) (fun x v6 h => kend x (finN v6 h)) v7 h) (kend x (finN v6 h))) r (.str (bs l)) (.str { data := #[] }) (.sl 0 0 m.length m.length 1) (.int .i64 (m.length : Nat)) (.int .i64 (j : Int)) H) (A := fun H => (kbstr H (.sl 0 0 m.length m.length 1)).bind fun v => finN v H) (m := m.length + 1)
    (fun j r H hj hs => by
      have hln := xorTo_len (j := j) hml
      have hj' : (j : Int) < m.length := by omega
      have hjm : j < l.length := by omega
      have w := wrap_succ (n := j) (by simp only [maxLen]; omega)
      have ld := byte_load hs (j := j) (by omega)
      rw [xorTo_get hml hj, hln] at ld
      have st := byte_store hs (j := j) (by omega) (c := m[j] ^^^ l[j]) (x := ((m[j] ^^^ l[j]).toNat : Int)) rfl
      rw [hln, xorTo_set hml hj] at st
      have ki := kia_byte (k := .i64) (b := 0) hj
      have kb := kbyte_nat (k := .i64) (l := l) hjm
      have xr := kxor8 m[j] l[j]
      refine ⟨H.set 0 ((xorTo m l (j + 1)).flatMap cy), ?_, ?_⟩
      · generalize GV.str (bs l) = M at *
        generalize ((m[j] ^^^ l[j]).toNat : Int) = x at *
        generalize (m[j].toNat : Int) = y at *
        generalize (l[j].toNat : Int) = z at *
        simp [S.impl_xored.l6, hj', ki, ld, kb, xr, st, w, -kia_sl, -kload1_ptr, -kstore_ptr]
      · have := (List.getElem?_eq_some_iff.1 hs).1
        rw [List.getElem?_set_self this])
    (fun r H hs => by simp [S.impl_xored.l6]) (s := [m.flatMap cy]) (by rw [xorTo_zero]; rfl) (by omega)
  obtain ⟨H, k1, k2⟩ := key
  rw [hml] at k1
  rw [hml]
  refine k1.trans ?_
  rw [xorTo_all hml] at k2
  have e := kbstr_at (h := H) (b := 0) (rest := []) (R := []) (l := xorL m l) (c := l.length) (n := l.length) (by simpa using k2) (by simp [xorL, hml]) (by simp [xorL, hml])
  rw [e]
  rfl

/-! A sealed text. -/
def sealM (key : List UInt8) (count : Int) (l : List UInt8) : List UInt8 := if toldP key count l.length then itoa count ++ [32] ++ itoa (markM key count l) ++ [32] ++ xorL l (streamM key count l.length) else []
theorem markGo_b {s : Int} {l : List UInt8} (h : 0 ≤ s ∧ s < 2147483647) : 0 ≤ markGo s l ∧ markGo s l < 2147483647 := by
  unfold markGo
  induction l generalizing s with
  | nil => exact h
  | cons x l ih => exact ih (mixM_b _ _)
theorem markM_b (key : List UInt8) (count : Int) (l : List UInt8) : -1 ≤ markM key count l ∧ markM key count l < 2147483647 := by
  unfold markM
  split
  · have := markGo_b (l := l) (mixM_b (begM 5 key count) l.length); omega
  · omega
theorem stream_len {key : List UInt8} {count : Int} {n : Nat} (h : toldP key count n = true) : (streamM key count n).length = n := by unfold streamM; rw [if_pos h, strm_len]
theorem xorL_len {l m : List UInt8} (h : m.length = l.length) : (xorL l m).length = l.length := by unfold xorL; rw [List.length_zipWith]; omega
theorem seal_words {a b c : List UInt8} (h : a.length ≤ 20) (h' : b.length ≤ 20) (hc : c.length ≤ 1048576) :
    kbin .add (.str (bs a)) (.str { data := #[32] }) = some (.str (bs (a ++ [32]))) ∧ kbin .add (.str (bs (a ++ [32]))) (.str (bs b)) = some (.str (bs (a ++ [32] ++ b))) ∧
    kbin .add (.str (bs (a ++ [32] ++ b))) (.str { data := #[32] }) = some (.str (bs (a ++ [32] ++ b ++ [32]))) ∧ kbin .add (.str (bs (a ++ [32] ++ b ++ [32]))) (.str (bs c)) = some (.str (bs (a ++ [32] ++ b ++ [32] ++ c))) :=
  ⟨kadd_c (B := [32]) rfl (by simp only [List.length_singleton, maxLen]; omega), kadd_bs (by simp only [List.length_append, List.length_singleton, maxLen]; omega),
   kadd_c (B := [32]) rfl (by simp only [List.length_append, List.length_singleton, maxLen]; omega), kadd_bs (by simp only [List.length_append, List.length_singleton, maxLen]; omega)⟩
theorem impl_Sealed_spec (key : List UInt8) (count : Int) (l : List UInt8) (hk : key.length ≤ 1048576) (hl : l.length ≤ 1048576) : NN fn.impl_Sealed [.str (bs key), .int .i64 count, .str (bs l)] = some (.str (bs (sealM key count l))) := by
  apply S.impl_Sealed.gives (k := 0)
  have kl := klenS_bs l
  have i1 : kN NN fn.impl_isSeal [.str (bs key), .int .i64 count, .int .i64 (l.length : Nat)] [] = some (.bool (toldP key count l.length)) := kN_at (by simp) (impl_isSeal_spec _ _ _)
  unfold sealM
  by_cases hT : toldP key count l.length = true
  case neg =>
    rw [if_neg hT]
    have hT' : toldP key count l.length = false := by simpa using hT
    rw [hT'] at i1
    generalize GV.str (bs key) = L at *
    generalize GV.str (bs l) = M at *
    simp [S.impl_Sealed.run, kl, i1, -kN_eq]
  rw [if_pos hT]
  rw [hT] at i1
  obtain ⟨c1, c2, c3, c4, c5⟩ := told_of hT
  have mb := markM_b key count l
  have d1 : kN NN fn.impl_decimal [.int .i64 count] [] = some (.str (bs (itoa count))) := kN_at (by simp) (impl_decimal_spec _ (by omega) (by omega))
  have d2 : kN NN fn.impl_decimal [.int .i64 (markM key count l)] [] = some (.str (bs (itoa (markM key count l)))) := kN_at (by simp) (impl_decimal_spec _ (by omega) (by omega))
  have m1 : kN NN fn.impl_Mark [.str (bs key), .int .i64 count, .str (bs l)] [] = some (.int .i64 (markM key count l)) := kN_at (by simp) (impl_Mark_spec _ _ _ hk hl)
  have x1 : kN NN fn.impl_xored [.str (bs key), .int .i64 count, .str (bs l)] [] = some (.str (bs (xorL l (streamM key count l.length)))) := kN_at (by simp) (impl_xored_spec _ _ _ hk hl hT)
  obtain ⟨a1, a2, a3, a4⟩ := seal_words (itoa_len (n := count) (by omega) (by omega)) (itoa_len (n := markM key count l) (by omega) (by omega)) (c := xorL l (streamM key count l.length)) (by rw [xorL_len (stream_len hT)]; exact hl)
  have fT := fun h => finN_bs (itoa count ++ [32] ++ itoa (markM key count l) ++ [32] ++ xorL l (streamM key count l.length)) h
  generalize GV.str (bs (itoa count ++ [32] ++ itoa (markM key count l) ++ [32] ++ xorL l (streamM key count l.length))) = X5 at *
  generalize GV.str (bs (itoa count ++ [32] ++ itoa (markM key count l) ++ [32])) = X4 at *
  generalize GV.str (bs (itoa count ++ [32] ++ itoa (markM key count l))) = X3 at *
  generalize GV.str (bs (itoa count ++ [32])) = X2 at *
  generalize GV.str (bs (itoa count)) = X1 at *
  generalize GV.str (bs (itoa (markM key count l))) = Y at *
  generalize GV.str (bs (xorL l (streamM key count l.length))) = Z at *
  generalize GV.str (bs key) = L at *
  generalize GV.str (bs l) = M at *
  simp [S.impl_Sealed.run, kl, i1, d1, d2, m1, x1, a1, a2, a3, a4, fT, -kN_eq]
theorem spec_Sealed_spec (key : List UInt8) (count : Int) (l : List UInt8) (hk : key.length ≤ 1048576) (hl : l.length ≤ 1048576) : NN fn.spec_Sealed [.str (bs key), .int .i64 count, .str (bs l)] = some (.str (bs (sealM key count l))) := by
  apply S.spec_Sealed.gives (k := 0)
  have kl := klenS_bs l
  have i1 : kN NN fn.spec_l14Told [.str (bs key), .int .i64 count, .int .i64 (l.length : Nat)] [] = some (.bool (toldP key count l.length)) := kN_at (by simp) (spec_l14Told_spec _ _ _ (by omega))
  unfold sealM
  by_cases hT : toldP key count l.length = true
  case neg =>
    rw [if_neg hT]
    have hT' : toldP key count l.length = false := by simpa using hT
    rw [hT'] at i1
    generalize GV.str (bs key) = L at *
    generalize GV.str (bs l) = M at *
    simp [S.spec_Sealed.run, kl, i1, -kN_eq]
  rw [if_pos hT]
  rw [hT] at i1
  obtain ⟨c1, c2, c3, c4, c5⟩ := told_of hT
  have mb := markM_b key count l
  have hsl := stream_len hT
  have d1 : kN NN fn.spec_l3Int [.int .i64 count] [] = some (.str (bs (itoa count))) := kN_at (by simp) (spec_l3Int_spec _ (by omega) (by omega))
  have d2 : kN NN fn.spec_l3Int [.int .i64 (markM key count l)] [] = some (.str (bs (itoa (markM key count l)))) := kN_at (by simp) (spec_l3Int_spec _ (by omega) (by omega))
  have m1 : kN NN fn.spec_Mark [.str (bs key), .int .i64 count, .str (bs l)] [] = some (.int .i64 (markM key count l)) := kN_at (by simp) (spec_Mark_spec _ _ _ hk hl)
  have s1 : kN NN fn.spec_Stream [.str (bs key), .int .i64 count, .int .i64 (l.length : Nat)] [] = some (.str (bs (streamM key count l.length))) := kN_at (by simp) (spec_Stream_spec _ _ _ hk hl)
  have x1 : kN NN fn.spec_l14Xor [.str (bs l), .str (bs (streamM key count l.length))] [] = some (.str (bs (xorL l (streamM key count l.length)))) := kN_at (by simp) (spec_l14Xor_spec _ _ hsl.symm hl)
  obtain ⟨a1, a2, a3, a4⟩ := seal_words (itoa_len (n := count) (by omega) (by omega)) (itoa_len (n := markM key count l) (by omega) (by omega)) (c := xorL l (streamM key count l.length)) (by rw [xorL_len hsl]; exact hl)
  have fT := fun h => finN_bs (itoa count ++ [32] ++ itoa (markM key count l) ++ [32] ++ xorL l (streamM key count l.length)) h
  generalize GV.str (bs (itoa count ++ [32] ++ itoa (markM key count l) ++ [32] ++ xorL l (streamM key count l.length))) = X5 at *
  generalize GV.str (bs (itoa count ++ [32] ++ itoa (markM key count l) ++ [32])) = X4 at *
  generalize GV.str (bs (itoa count ++ [32] ++ itoa (markM key count l))) = X3 at *
  generalize GV.str (bs (itoa count ++ [32])) = X2 at *
  generalize GV.str (bs (itoa count)) = X1 at *
  generalize GV.str (bs (itoa (markM key count l))) = Y at *
  generalize GV.str (bs (xorL l (streamM key count l.length))) = Z at *
  generalize GV.str (bs (streamM key count l.length)) = W at *
  generalize GV.str (bs key) = L at *
  generalize GV.str (bs l) = M at *
  simp [S.spec_Sealed.run, kl, i1, d1, d2, m1, s1, x1, a1, a2, a3, a4, fT, -kN_eq]
end Go.Proofs.YtklhdbkaejbajaaDoor.G
