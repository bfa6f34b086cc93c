/- Loops in general: what goes on as long as something holds, and what is gathered round by round. -/
import Derived.Test.YtklhdbkaejbajaaDoorT1
namespace Go.Proofs.YtklhdbkaejbajaaDoor.G
open Go.RowKit
set_option linter.unusedVariables false
set_option linter.unusedSimpArgs false

open Classical in
/-- A loop over places j to n that leaves by B at the first place that is not right, else by A. -/
theorem loop_all {R : Type} {P : Nat → Prop} {n : Nat} {f : Nat → Nat → R} {A B : R} (h1 : ∀ j r, j < n → f (r + 1) j = if P j then f r (j + 1) else B) (h2 : ∀ r, f (r + 1) n = A) :
    ∀ r j, n - j < r → j ≤ n → f r j = if (∀ i, j ≤ i → i < n → P i) then A else B := by
  intro r
  induction r with
  | zero => intro j h; omega
  | succ r ih =>
    intro j hr hj
    rcases Nat.lt_or_ge j n with h | h
    · rw [h1 j r h]
      by_cases hp : P j
      · rw [if_pos hp, ih (j + 1) (by omega) (by omega)]
        have : (∀ i, j + 1 ≤ i → i < n → P i) ↔ (∀ i, j ≤ i → i < n → P i) := by
          constructor
          · intro h i hi hin
            rcases Nat.eq_or_lt_of_le hi with rfl | hi
            · exact hp
            · exact h i hi hin
          · intro h i hi; exact h i (by omega)
        simp only [this]
      · rw [if_neg hp, if_neg (fun h' => hp (h' j (Nat.le_refl j) h))]
    · have : j = n := by omega
      subst this
      rw [h2 r, if_pos (fun i h1 h2 => by omega)]

/-- A loop over places that gathers. -/
theorem loop_fold {R S : Type} {n : Nat} {f : Nat → Nat → S → R} {g : Nat → S → S} {A : S → R} (h1 : ∀ j r s, j < n → f (r + 1) j s = f r (j + 1) (g j s)) (h2 : ∀ r s, f (r + 1) n s = A s) :
    ∀ r j s, n - j < r → j ≤ n → f r j s = A ((List.range' j (n - j)).foldl (fun s i => g i s) s) := by
  intro r
  induction r with
  | zero => intro j s h; omega
  | succ r ih =>
    intro j s hr hj
    rcases Nat.lt_or_ge j n with h | h
    · rw [h1 j r s h, ih (j + 1) _ (by omega) (by omega)]
      rw [show n - j = (n - (j + 1)) + 1 by omega, List.range'_succ, List.foldl_cons]
    · have : j = n := by omega
      subst this
      rw [h2 r]
      simp

/-- A loop that goes over all places. -/
theorem loop_to {R : Type} {n : Nat} {f : Nat → Nat → R} {A : R} (h1 : ∀ j r, j < n → f (r + 1) j = f r (j + 1)) (h2 : ∀ r, f (r + 1) n = A) : ∀ r j, n - j < r → j ≤ n → f r j = A := by
  intro r
  induction r with
  | zero => intro j h; omega
  | succ r ih =>
    intro j hr hj
    rcases Nat.lt_or_ge j n with h | h
    · rw [h1 j r h, ih (j + 1) (by omega) (by omega)]
    · have : j = n := by omega
      subst this
      exact h2 r

/-- The cells of a slice of which the first j places are filled. -/
def fill {α : Type} (mk : α → List GV) (z : List GV) (xs : List α) (j : Nat) : List GV := (xs.take j).flatMap mk ++ zeros z (xs.length - j)
theorem zeros_len' (z : List GV) (n : Nat) : (zeros z n).length = n * z.length := by
  induction n with
  | zero => simp [zeros]
  | succ n ih => simp [zeros, ih, Nat.add_mul]; omega
@[simp] theorem fill_zero {α : Type} {mk : α → List GV} {z : List GV} {xs : List α} : fill mk z xs 0 = zeros z xs.length := by simp [fill]
@[simp] theorem fill_all {α : Type} {mk : α → List GV} {z : List GV} {xs : List α} : fill mk z xs xs.length = xs.flatMap mk := by simp [fill, zeros]
theorem fill_len {α : Type} {mk : α → List GV} {z : List GV} {es : Nat} (hm : ∀ a, (mk a).length = es) (hz : z.length = es) (xs : List α) (j : Nat) (hj : j ≤ xs.length) : (fill mk z xs j).length = xs.length * es := by
  unfold fill
  rw [List.length_append, len_flat hm, zeros_len', hz, List.length_take, Nat.min_eq_left hj, ← Nat.add_mul]
  congr 1; omega
/-- The next place is filled. -/
theorem fill_step {α : Type} {mk : α → List GV} {z : List GV} {es : Nat} (hm : ∀ a, (mk a).length = es) (hz : z.length = es) (xs : List α) (j : Nat) (hj : j < xs.length) :
    splice (fill mk z xs j) (j * es) (mk xs[j]) = fill mk z xs (j + 1) := by
  have hl : ((xs.take j).flatMap mk).length = j * es := by rw [len_flat hm, List.length_take, Nat.min_eq_left (by omega)]
  unfold splice fill
  rw [List.take_append_of_le_length (by omega), List.take_of_length_le (by omega), List.drop_append, List.drop_of_length_le (by omega), hl, hm]
  rw [show j * es + es - j * es = es by omega, List.nil_append]
  rw [show xs.length - j = (xs.length - (j + 1)) + 1 by omega]
  simp only [zeros]
  rw [List.drop_append, List.drop_of_length_le (by omega), hz, Nat.sub_self, List.drop_zero, List.nil_append]
  have e : xs.take (j + 1) = xs.take j ++ [xs[j]] := by rw [List.take_add_one, List.getElem?_eq_getElem hj]; rfl
  rw [e, List.flatMap_append, List.flatMap_singleton, List.append_assoc]

@[simp] theorem kia_sl {es b off len cap es' : Nat} {k : IntKind} {i : Int} : kia es (.sl b off len cap es') (.int k i) = if es = es' ∧ 0 ≤ i ∧ i < len then some (.ptr b (off + i.toNat * es) (off + cap * es)) else none := rfl
@[simp] theorem klen_sl {b off len cap es : Nat} : klen (.sl b off len cap es) = some (.int .i64 len) := rfl

/-- What is handed back of cells. -/
def Frz (d : Nat) (h : Heap) (cs cs' : List GV) : Prop := ∃ ys, cs.mapM (frz d h) = some ys ∧ ys.map (·.1) = cs'
theorem Frz.nil {d : Nat} {h : Heap} : Frz d h [] [] := ⟨[], rfl, rfl⟩
theorem Frz.cons {d : Nat} {h : Heap} {g g' : GV} {r : List Nat} {cs cs' : List GV} (hg : frz d h g = some (g', r)) (hc : Frz d h cs cs') : Frz d h (g :: cs) (g' :: cs') := by
  obtain ⟨ys, h1, h2⟩ := hc
  exact ⟨(g', r) :: ys, by simp [List.mapM_cons, hg, h1], by simp [h2]⟩
theorem mapM_append' {α β : Type} {f : α → Option β} {l1 l2 : List α} {r1 r2 : List β} (h1 : l1.mapM f = some r1) (h2 : l2.mapM f = some r2) : (l1 ++ l2).mapM f = some (r1 ++ r2) := by
  simp [List.mapM_append, h1, h2]
theorem Frz.append {d : Nat} {h : Heap} {a a' b b' : List GV} (h1 : Frz d h a a') (h2 : Frz d h b b') : Frz d h (a ++ b) (a' ++ b') := by
  obtain ⟨ys, e1, e2⟩ := h1
  obtain ⟨zs, e3, e4⟩ := h2
  exact ⟨ys ++ zs, mapM_append' e1 e3, by simp [e2, e4]⟩
theorem Frz.flat {α : Type} {d : Nat} {h : Heap} {mk mk' : α → List GV} {xs : List α} (hf : ∀ a ∈ xs, Frz d h (mk a) (mk' a)) : Frz d h (xs.flatMap mk) (xs.flatMap mk') := by
  induction xs with
  | nil => exact .nil
  | cons x xs ih => exact .append (hf x (by simp)) (ih fun a ha => hf a (by simp [ha]))
@[simp] theorem frz_int {d : Nat} {h : Heap} {k : IntKind} {n : Int} : frz (d + 1) h (.int k n) = some (.int k n, []) := rfl
@[simp] theorem frz_bool {d : Nat} {h : Heap} {n : Bool} : frz (d + 1) h (.bool n) = some (.bool n, []) := rfl
@[simp] theorem frz_str {d : Nat} {h : Heap} {n : ByteArray} : frz (d + 1) h (.str n) = some (.str n, []) := rfl
@[simp] theorem frz_mt {d : Nat} {h : Heap} : frz (d + 1) h mt = some (mt, []) := rfl
@[simp] theorem frz_nils {d : Nat} {h : Heap} : frz (d + 1) h .nils = some (mt, []) := rfl
@[simp] theorem frz_emp {d : Nat} {h : Heap} : frz (d + 1) h .emp = some (mt, []) := rfl
@[simp] theorem frz_fzl {α : Type} {d es : Nat} {h : Heap} {mk : α → List GV} {xs : List α} : frz (d + 1) h (fzl false es mk xs) = some (fzl false es mk xs, []) := by cases xs <;> rfl
theorem frz_agg {d : Nat} {h : Heap} {cs cs' : List GV} (hf : Frz d h cs cs') : frz (d + 1) h (.agg cs) = some (.agg cs', []) := by
  obtain ⟨ys, h1, h2⟩ := hf
  simp [frz, h1, h2]
theorem frz_tup {d : Nat} {h : Heap} {cs cs' : List GV} (hf : Frz d h cs cs') : frz (d + 1) h (.tup cs) = some (.tup cs', []) := by
  obtain ⟨ys, h1, h2⟩ := hf
  simp [frz, h1, h2]
theorem frz_sl {α : Type} {d i cap es : Nat} {h : Heap} {mk mk' : α → List GV} {xs : List α} {rest : List GV} (hm : ∀ a, (mk a).length = es) (hh : h[i]? = some (xs.flatMap mk ++ rest)) (hr : (xs.flatMap mk ++ rest).length = cap * es) (hc : xs.length ≤ cap) (hf : ∀ a ∈ xs, Frz d h (mk a) (mk' a)) :
    frz (d + 1) h (.sl i 0 xs.length cap es) = some (fzl false es mk' xs, []) := by
  obtain ⟨ys, h1, h2⟩ := Frz.flat hf
  have hl : (xs.flatMap mk).length = xs.length * es := len_flat hm xs
  have h3 : ((xs.flatMap mk ++ rest).drop 0).take (xs.length * es) = xs.flatMap mk := by rw [List.drop_zero, List.take_append_of_le_length (by omega), List.take_of_length_le (by omega)]
  simp only [frz, Option.bind_eq_bind, cellsAt_if, hh, Option.bind_some, Nat.zero_add, hr, if_true]
  rw [h3, h1]
  simp only [Option.bind_some]
  rw [if_pos hc]
  cases xs with
  | nil => rfl
  | cons x xs => simp [fzl, h2]
theorem finN_of {v v' : GV} {h : Heap} {r : List Nat} (e : frz 9 h v = some (v', r)) : finN v h = some v' := by simp [finN, e]
theorem Frz.ci {d : Nat} {h : Heap} {n : Int} : Frz (d + 1) h (ci n) (ci n) := .cons frz_int .nil
theorem Frz.cs {d : Nat} {h : Heap} {n : ByteArray} : Frz (d + 1) h (cs n) (cs n) := .cons frz_str .nil

@[simp] theorem bor_agg {d : Nat} {h : Heap} {cs : List GV} : bor (d + 1) h (.agg cs) = (cs.mapM (bor d h)).bind fun xs => some (.agg (xs.map (·.1)), (xs.map (·.2)).flatten) := rfl
attribute [simp] List.mapM_cons List.mapM_nil Option.pure_def Option.bind_eq_bind

theorem wf_i64 {n : Int} (h : (Lit.int .i64 n).wf = true) : -9223372036854775808 ≤ n ∧ n ≤ 9223372036854775807 := by
  simp [Lit.wf, IntKind.min, IntKind.max, IntKind.bits, IntKind.signed] at h
  omega
theorem wrap_succ {n : Nat} (h : n < maxLen) : IntKind.i64.wrap ((n : Int) + 1) = (n : Int) + 1 := by
  rw [wrap_id] <;> simp only [maxLen] at h <;> omega
theorem get_of {α : Type} {xs : List α} {j : Nat} (h : j < xs.length) : xs[j]? = some xs[j] := List.getElem?_eq_getElem h

theorem list_eq_iff {α : Type} {xs ys : List α} (h : xs.length = ys.length) : (∀ (i : Nat), i < xs.length → xs[i]? = ys[i]?) ↔ xs = ys := by
  constructor
  · intro hh
    apply List.ext_getElem? 
    intro i
    rcases Nat.lt_or_ge i xs.length with h1 | h1
    · exact hh i h1
    · rw [List.getElem?_eq_none h1, List.getElem?_eq_none (by omega)]
  · rintro rfl i _; rfl

/-- A slice that was made and is filled place by place. -/
theorem splice_one {cs : List GV} {j : Nat} {v : GV} (h : j < cs.length) : splice cs j [v] = cs.set j v := by
  unfold splice
  simp [List.set_eq_take_append_cons_drop, h]
end Go.Proofs.YtklhdbkaejbajaaDoor.G
