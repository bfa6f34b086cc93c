/- What stays as it was; one cell is read, is written. -/
import Derived.Test.YtolhjndfplfjpaaT5
namespace Go.Proofs.Ytolhjndfplfjpaa.G
open Go.RowKit
set_option linter.unusedVariables false
set_option linter.unusedSimpArgs false
/-- What is not in R is as it was. -/
def Fr (R : List Nat) (h h' : Heap) : Prop := h.length ≤ h'.length ∧ ∀ i, i < h.length → i ∉ R → h'[i]? = h[i]?
theorem Fr.refl {R : List Nat} {h : Heap} : Fr R h h := ⟨Nat.le_refl _, fun _ _ _ => rfl⟩
theorem Fr.trans {R : List Nat} {h h' h'' : Heap} (a : Fr R h h') (b : Fr R h' h'') : Fr R h h'' := ⟨Nat.le_trans a.1 b.1, fun i hi hn => (b.2 i (Nat.lt_of_lt_of_le hi a.1) hn).trans (a.2 i hi hn)⟩
theorem Fr.sub {R R' : List Nat} {h h' : Heap} (a : Fr R h h') (hs : ∀ i ∈ R, i ∈ R') : Fr R' h h' := ⟨a.1, fun i hi hn => a.2 i hi fun h => hn (hs i h)⟩
theorem Fr.set {R : List Nat} {h : Heap} {b : Nat} {c : List GV} (hb : b ∈ R) : Fr R h (h.set b c) := ⟨by rw [List.length_set]; exact Nat.le_refl _, fun i _ hn => List.getElem?_set_ne fun e => hn (by rw [← e]; exact hb)⟩
theorem Fr.app {R : List Nat} {h t : Heap} : Fr R h (h ++ t) := ⟨by rw [List.length_append]; omega, fun i hi _ => List.getElem?_append_left hi⟩
theorem kia_at {es b n j o tot : Nat} (hj : j < n) (ho : j * es = o) (ht : n * es = tot) : kia es (.sl b 0 n n es) (.int .i64 (j : Int)) = some (.ptr b o tot) := by
  rw [kia_sl, if_pos ⟨rfl, by omega, by omega⟩, ← ho, ← ht]
  simp
theorem kstore_at {h : Heap} {b o tot : Nat} {cells : List GV} {x : GV} (hb : h[b]? = some cells) (fl : cells.length = tot) (ho : o < tot) (hx : x.cells = [x]) (hc : x.isCell = true) : kstore 1 h (.ptr b o tot) x = some (h.set b (cells.set o x)) := by
  rw [kstore_ptr, if_pos ⟨by rw [hx]; rfl, by rw [hx]; simp [hc]⟩, cellsAt_if, hb]
  simp only [Option.bind_some, fl, if_true]
  rw [if_pos (by omega), hx, splice_one (by omega)]
theorem kload1_at {h : Heap} {b o tot : Nat} {cells : List GV} (hb : h[b]? = some cells) (fl : cells.length = tot) : kload1 h (.ptr b o tot) = cells[o]? := by
  rw [kload1_ptr, cellsAt_if, hb]
  simp [fl]
theorem part_at {cells pre c post : List GV} {o n : Nat} (h : cells = pre ++ (c ++ post)) (ho : pre.length = o) (hn : c.length = n) : (cells.drop o).take n = c := by
  rw [h, ← ho, List.drop_left, ← hn, List.take_left]
theorem part1_at {cells pre post : List GV} {g : GV} {o : Nat} (h : cells = pre ++ ([g] ++ post)) (ho : pre.length = o) : cells[o]? = some g := by
  rw [h, ← ho, List.getElem?_append_right (Nat.le_refl _), Nat.sub_self]; rfl
/-- A part of a struct in a block. -/
theorem kpartA_at {H : Heap} {b o t n : Nat} {cells c : List GV} (hb : H[b]? = some cells) (fl : cells.length = t) (hd : (cells.drop o).take n = c) (hl : o + n ≤ cells.length) : kloadA n H (.ptr b o t) = some (.agg c) := by
  rw [kloadA_ptr, cellsAt_if, hb]
  simp only [Option.bind_some, fl, if_true]
  rw [if_pos (by omega), hd]
/-- A loop that keeps something. -/
theorem loop_inv {Q T : Type} {n : Nat} {Inv : Nat → T → Prop} {f : Nat → Nat → T → Q} {A : T → Q} (h1 : ∀ j r s, j < n → Inv j s → ∃ s', f (r + 1) j s = f r (j + 1) s' ∧ Inv (j + 1) s') (h2 : ∀ r s, Inv n s → f (r + 1) n s = A s) {s : T} (h0 : Inv 0 s) {m : Nat} (hm : n < m) : ∃ s', f m 0 s = A s' ∧ Inv n s' := by
  have key : ∀ m j s, n - j < m → j ≤ n → Inv j s → ∃ s', f m j s = A s' ∧ Inv n s' := by
    intro m
    induction m with
    | zero => intro j s h; omega
    | succ m ih =>
      intro j s hm hj hi
      rcases Nat.lt_or_ge j n with h | h
      · obtain ⟨s', a1, a2⟩ := h1 j m s h hi
        obtain ⟨s'', b1, b2⟩ := ih (j + 1) s' (by omega) (by omega) a2
        exact ⟨s'', a1.trans b1, b2⟩
      · have : j = n := by omega
        subst this
        exact ⟨s, h2 m s hi, hi⟩
  exact key m 0 s (by omega) (by omega) h0
end Go.Proofs.Ytolhjndfplfjpaa.G
