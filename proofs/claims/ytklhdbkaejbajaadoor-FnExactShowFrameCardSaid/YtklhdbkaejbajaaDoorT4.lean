/- Slices of structs, slices of slices: what the machine's words do on them; loops that count down. -/
import Derived.Test.YtklhdbkaejbajaaDoorT2
namespace Go.Proofs.YtklhdbkaejbajaaDoor.G
open Go.RowKit
set_option linter.unusedVariables false
set_option linter.unusedSimpArgs false

theorem drop_flat_cons {α : Type} {mk : α → List GV} {xs : List α} {j : Nat} (hj : j < xs.length) : (xs.drop j).flatMap mk = mk xs[j] ++ (xs.drop (j + 1)).flatMap mk := by
  rw [List.drop_eq_getElem_cons hj, List.flatMap_cons]

theorem kloadA_elp {α : Type} {es : Nat} {mk : α → List GV} (hm : ∀ a, (mk a).length = es) (h0 : 0 < es) {h : Heap} {t : Bool} {xs : List α} {j : Nat} : kloadA es h (elp t mk xs j) = xs[j]?.map fun a => .agg (mk a) := by
  unfold kloadA elp kread
  rcases Nat.lt_or_ge j xs.length with hj | hj
  · rw [drop_flat_cons hj, List.getElem?_eq_getElem hj]
    simp only
    rw [if_pos (by rw [List.length_append, hm]; omega), List.take_append_of_le_length (by rw [hm]; omega), List.take_of_length_le (by rw [hm]; omega)]
    rfl
  · rw [List.drop_of_length_le hj, List.getElem?_eq_none hj]
    simp only [List.flatMap_nil, List.length_nil]
    rw [if_neg (by omega)]
    rfl
theorem kload1_elf {α : Type} {es : Nat} {mk : α → List GV} (hm : ∀ a, (mk a).length = es) {h : Heap} {t : Bool} {xs : List α} {j off : Nat} (h0 : off < es) : kload1 h (elf t mk xs j off) = xs[j]?.bind fun a => (mk a)[off]? := by
  unfold kload1 elf kread
  rcases Nat.lt_or_ge j xs.length with hj | hj
  · rw [drop_flat_cons hj, List.getElem?_eq_getElem hj]
    simp only
    have hl : off < (mk xs[j]).length := by rw [hm]; exact h0
    rw [List.drop_append_of_le_length (by omega), List.drop_eq_getElem_cons hl]
    rw [if_pos (by rw [List.cons_append, List.length_cons]; omega)]
    simp only [List.cons_append, List.take_succ_cons, List.take_zero, Option.bind_some, one]
    rw [List.getElem?_eq_getElem hl]
  · rw [List.drop_of_length_le hj, List.getElem?_eq_none hj]
    simp
theorem kload1_elp {α : Type} {mk : α → List GV} (g : α → GV) (hm : ∀ a, mk a = [g a]) {h : Heap} {t : Bool} {xs : List α} {j : Nat} : kload1 h (elp t mk xs j) = xs[j]?.map g := by
  have : elp t mk xs j = elf t mk xs j 0 := rfl
  rw [this, kload1_elf (es := 1) (fun a => by rw [hm]; rfl) (by omega)]
  cases xs[j]? with
  | none => rfl
  | some a => simp [hm]

theorem map_cons' {α β : Type} {f : α → β} {a : α} {b : β} {l : List α} {m : List β} (h1 : f a = b) (h2 : l.map f = m) : (a :: l).map f = b :: m := by rw [List.map_cons, h1, h2]

/-- A loop that counts down what the elements weigh. -/
theorem loop_sz {α R : Type} {xs : List α} {c : α → Nat} {f : Nat → Nat → Int → R} {A : Int → R} {B : R}
    (h1 : ∀ j r l (hj : j < xs.length), 0 ≤ l → l ≤ 1048576 → f (r + 1) j l = if l < (c xs[j] : Int) then B else f r (j + 1) (l - c xs[j])) (h2 : ∀ r l, f (r + 1) xs.length l = A l) :
    ∀ r j l, xs.length - j < r → j ≤ xs.length → 0 ≤ l → l ≤ 1048576 → f r j l = if l < ((((xs.drop j).map c).sum : Nat) : Int) then B else A (l - (((xs.drop j).map c).sum : Nat)) := by
  intro r
  induction r with
  | zero => intro j l h; omega
  | succ r ih =>
    intro j l hr hj hl hl'
    rcases Nat.lt_or_ge j xs.length with h | h
    · rw [h1 j r l h hl hl', List.drop_eq_getElem_cons h, List.map_cons, List.sum_cons]
      by_cases hc : l < (c xs[j] : Int)
      · rw [if_pos hc, if_pos (by omega)]
      · rw [if_neg hc, ih (j + 1) _ (by omega) (by omega) (by omega) (by omega)]
        by_cases hd : l - (c xs[j] : Int) < ((((xs.drop (j + 1)).map c).sum : Nat) : Int)
        · rw [if_pos hd, if_pos (by omega)]
        · rw [if_neg hd, if_neg (by omega)]
          congr 1
          omega
    · have : j = xs.length := by omega
      subst this
      rw [h2 r]
      simp
      intro; omega
theorem sum_mem {α : Type} {c : α → Nat} {xs : List α} {a : α} (h : a ∈ xs) : c a ≤ (xs.map c).sum := by
  induction xs with
  | nil => cases h
  | cons x xs ih =>
    rw [List.map_cons, List.sum_cons]
    rcases List.mem_cons.1 h with rfl | h
    · omega
    · have := ih h; omega
theorem wrap_sub {l : Int} {n : Nat} (h : 0 ≤ l) (h' : l ≤ 1048576) (hn : n ≤ maxLen) : IntKind.i64.wrap (l - n) = l - n := by
  rw [wrap_id] <;> simp only [maxLen] at hn <;> omega
theorem kmake_eq {z : List GV} {es b n : Nat} {h : Heap} (hn : n ≤ 1048576) (hb : b ≤ 1024) (hz : z.length = es) : kmake z es b (.int .i64 n) (.int .i64 n) h = some (.sl h.length 0 n n es, h ++ [zeros z n]) := by
  have h1 : n * b ≤ 1048576 * 1024 := Nat.mul_le_mul hn hb
  simp [kmake, maxLen, roomMax, hz]
  omega
theorem dec_and {p q : Prop} [Decidable p] [Decidable q] [Decidable (p ∧ q)] : decide (p ∧ q) = (decide p && decide q) := by
  by_cases p <;> by_cases q <;> simp [*]
end Go.Proofs.YtklhdbkaejbajaaDoor.G
