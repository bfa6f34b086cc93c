/- What stays as it was; one cell is read, is written. -/
import Derived.Test.YtklhdbkaejbajaaDoorT5
namespace Go.Proofs.YtklhdbkaejbajaaDoor.G
open Go.RowKit
set_option linter.unusedVariables false
set_option linter.unusedSimpArgs false
/-- What is not in R is as it was. -/
def Fr (R : List Nat) (h h' : Heap) : Prop := h.length ≤ h'.length ∧ ∀ i, i < h.length → i ∉ R → h'[i]? = h[i]?
theorem Fr.refl {R : List Nat} {h : Heap} : Fr R h h := ⟨Nat.le_refl _, fun _ _ _ => rfl⟩
theorem Fr.trans {R : List Nat} {h h' h'' : Heap} (a : Fr R h h') (b : Fr R h' h'') : Fr R h h'' := ⟨Nat.le_trans a.1 b.1, fun i hi hn => (b.2 i (Nat.lt_of_lt_of_le hi a.1) hn).trans (a.2 i hi hn)⟩
theorem Fr.sub {R R' : List Nat} {h h' : Heap} (a : Fr R h h') (hs : ∀ i ∈ R, i ∈ R') : Fr R' h h' := ⟨a.1, fun i hi hn => a.2 i hi fun h => hn (hs i h)⟩
theorem Fr.set {R : List Nat} {h : Heap} {b : Nat} {c : List GV} (hb : b ∈ R) : Fr R h (h.set b c) := ⟨by rw [List.length_set]; exact Nat.le_refl _, fun i _ hn => List.getElem?_set_ne fun e => hn (by rw [← e]; exact hb)⟩
theorem Fr.app {R : List Nat} {h t : Heap} : Fr R h (h ++ t) := ⟨by rw [List.length_append]; omega, fun i hi _ => List.getElem?_append_left hi⟩
theorem kia_at {es b n j o tot : Nat} (hj : j < n) (ho : j * es = o) (ht : n * es = tot) : kia es (.sl b 0 n n es) (.int .i64 (j : Int)) = some (.ptr b o tot) := by
  rw [kia_sl, if_pos ⟨rfl, by omega, by omega⟩, ← ho, ← ht]
  simp
theorem kstore_at {h : Heap} {b o tot : Nat} {cells : List GV} {x : GV} (hb : h[b]? = some cells) (fl : cells.length = tot) (ho : o < tot) (hx : x.cells = [x]) (hc : x.isCell = true) : kstore 1 h (.ptr b o tot) x = some (h.set b (cells.set o x)) := by
  rw [kstore_ptr, if_pos ⟨by rw [hx]; rfl, by rw [hx]; simp [hc]⟩, cellsAt_if, hb]
  simp only [Option.bind_some, fl, if_true]
  rw [if_pos (by omega), hx, splice_one (by omega)]
theorem kload1_at {h : Heap} {b o tot : Nat} {cells : List GV} (hb : h[b]? = some cells) (fl : cells.length = tot) : kload1 h (.ptr b o tot) = cells[o]? := by
  rw [kload1_ptr, cellsAt_if, hb]
  simp [fl]
theorem part_at {cells pre c post : List GV} {o n : Nat} (h : cells = pre ++ (c ++ post)) (ho : pre.length = o) (hn : c.length = n) : (cells.drop o).take n = c := by
  rw [h, ← ho, List.drop_left, ← hn, List.take_left]
theorem part1_at {cells pre post : List GV} {g : GV} {o : Nat} (h : cells = pre ++ ([g] ++ post)) (ho : pre.length = o) : cells[o]? = some g := by
  rw [h, ← ho, List.getElem?_append_right (Nat.le_refl _), Nat.sub_self]; rfl
/-- A part of a struct in a block. -/
theorem kpartA_at {H : Heap} {b o t n : Nat} {cells c : List GV} (hb : H[b]? = some cells) (fl : cells.length = t) (hd : (cells.drop o).take n = c) (hl : o + n ≤ cells.length) : kloadA n H (.ptr b o t) = some (.agg c) := by
  rw [kloadA_ptr, cellsAt_if, hb]
  simp only [Option.bind_some, fl, if_true]
  rw [if_pos (by omega), hd]
end Go.Proofs.YtklhdbkaejbajaaDoor.G
