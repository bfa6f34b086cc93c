/- Bytes that are gathered in memory. -/
import Derived.Test.YtklhdbkaejbajaaDoorTStr
namespace Go.Proofs.YtklhdbkaejbajaaDoor.G
open Go.RowKit
set_option linter.unusedVariables false
set_option linter.unusedSimpArgs false

/-! Bytes that are gathered. -/
/-- v: a slice of these bytes, in memory of its own. -/
def Buf (v : GV) (l : List UInt8) (h : Heap) : Prop := (l = [] ∧ v = .emp) ∨ ∃ b, v = .sl b 0 l.length l.length 1 ∧ h[b]? = some (l.flatMap cy)
theorem cy_len (l : List UInt8) : (l.flatMap cy).length = l.length := by
  have := len_flat (mk := cy) (es := 1) (fun _ => rfl) l
  simpa using this
theorem cy_cell (l : List UInt8) : (l.flatMap cy).all GV.isCell = true := all_flat (fun _ => rfl) l
theorem Buf.nil {h : Heap} : Buf .emp [] h := .inl ⟨rfl, rfl⟩
theorem Buf.app {v : GV} {l : List UInt8} {h : Heap} (hb : Buf v l h) {m : List UInt8} (hm : 0 < m.length) (hl : l.length + m.length ≤ 4194304) :
    ∃ v' h', kapp [.int .u8 0] 1 1 v (.sl h.length 0 m.length m.length 1) (h ++ [m.flatMap cy]) = some (v', h') ∧ Buf v' (l ++ m) h' := by
  have hcm := cy_len m
  have hcl := cy_len l
  have hg : gcells (h ++ [m.flatMap cy]) 1 (.sl h.length 0 m.length m.length 1) = some (m.length, m.flatMap cy, [h.length]) := by
    simp only [gcells, Option.bind_eq_bind, cellsAt_if]
    have e : (h ++ [m.flatMap cy])[h.length]? = some (m.flatMap cy) := by simp
    rw [e]
    simp only [Option.bind_some]
    rw [if_pos (by omega)]
    simp only [Option.bind_some, true_and, List.drop_zero]
    rw [if_pos (Nat.le_refl _), List.take_of_length_le (by omega)]
  have hok : (m.flatMap cy).all GV.isCell = true ∧ ([GV.int .u8 0] : List GV).length = 1 ∧ m.length ≤ maxLen ∧ m.length * 1 ≤ roomMax := ⟨cy_cell m, rfl, by simp only [maxLen]; omega, by simp only [roomMax]; omega⟩
  rcases hb with ⟨rfl, rfl⟩ | ⟨b, rfl, hh⟩
  · refine ⟨.sl (h ++ [m.flatMap cy]).length 0 m.length m.length 1, (h ++ [m.flatMap cy]) ++ [m.flatMap cy], ?_, .inr ⟨(h ++ [m.flatMap cy]).length, rfl, by simp⟩⟩
    · unfold kapp
      rw [hg]
      simp only [Option.bind_some]
      rw [if_pos hok, if_neg (by omega)]
  · have hbl := (List.getElem?_eq_some_iff.1 hh).1
    have e : (h ++ [m.flatMap cy])[b]? = some (l.flatMap cy) := by rw [List.getElem?_append_left hbl]; exact hh
    refine ⟨.sl b 0 (l.length + m.length) (l.length + m.length) 1, (h ++ [m.flatMap cy]).set b ((l.flatMap cy).take (l.length * 1) ++ m.flatMap cy), ?_, .inr ⟨b, by rw [List.length_append], ?_⟩⟩
    · unfold kapp
      rw [hg]
      simp only [Option.bind_some]
      rw [if_pos hok]
      simp only [cellsAt_if, e, Option.bind_some]
      rw [if_pos (by omega)]
      simp only [Option.bind_some]
      rw [if_pos ⟨trivial, Nat.le_refl _, by simp only [roomMax]; omega, by simp only [maxLen]; omega⟩, if_neg (by omega), if_pos ⟨trivial, by omega⟩]
    · rw [List.getElem?_set_self (by simp; omega), Nat.mul_one, List.take_of_length_le (by omega), List.flatMap_append]
theorem Buf.str {v : GV} {l : List UInt8} {h : Heap} (hb : Buf v l h) : kbstr h v = some (.str (bs l)) := by
  rcases hb with ⟨rfl, rfl⟩ | ⟨b, rfl, hh⟩
  · rfl
  · exact kbstr_at (rest := []) (R := []) (by simpa using hh) (by simp) rfl
theorem cy_get {l : List UInt8} {j : Nat} (hj : j < l.length) : (l.flatMap cy)[j]? = some (.int .u8 (l[j].toNat : Int)) := by
  have e : (l.flatMap cy) = l.map fun b => GV.int .u8 (b.toNat : Int) := by
    clear hj
    induction l with
    | nil => rfl
    | cons x l ih => rw [List.flatMap_cons, ih]; rfl
  rw [e, List.getElem?_map, List.getElem?_eq_getElem hj]; rfl
theorem cy_set {l : List UInt8} {j : Nat} {c : UInt8} : (l.flatMap cy).set j (.int .u8 (c.toNat : Int)) = (l.set j c).flatMap cy := by
  have e : ∀ l : List UInt8, (l.flatMap cy) = l.map fun b => GV.int .u8 (b.toNat : Int) := by
    intro l
    induction l with
    | nil => rfl
    | cons x l ih => rw [List.flatMap_cons, ih]; rfl
  rw [e, e, List.map_set]
/-- A byte of bytes in memory is read, is written. -/
theorem byte_load {h : Heap} {b : Nat} {l : List UInt8} (hh : h[b]? = some (l.flatMap cy)) {j : Nat} (hj : j < l.length) : kload1 h (.ptr b j l.length) = some (.int .u8 (l[j].toNat : Int)) := by
  rw [kload1_ptr, cellsAt_if, hh]
  simp only [Option.bind_some]
  rw [if_pos (cy_len l)]
  simp only [Option.bind_some]
  exact cy_get hj
theorem byte_store {h : Heap} {b : Nat} {l : List UInt8} (hh : h[b]? = some (l.flatMap cy)) {j : Nat} (hj : j < l.length) {c : UInt8} {x : Int} (hx : x = (c.toNat : Int)) : kstore 1 h (.ptr b j l.length) (.int .u8 x) = some (h.set b ((l.set j c).flatMap cy)) := by
  subst hx
  rw [kstore_ptr, if_pos ⟨rfl, rfl⟩, cellsAt_if, hh]
  simp only [Option.bind_some]
  rw [if_pos (cy_len l)]
  simp only [Option.bind_some]
  rw [if_pos (by rw [cy_len]; omega), cells_int, splice_one (by rw [cy_len]; exact hj), cy_set]
theorem kia_byte {k : IntKind} {b n : Nat} {j : Nat} (hj : j < n) : kia 1 (.sl b 0 n n 1) (.int k (j : Int)) = some (.ptr b j n) := by
  rw [kia_sl, if_pos ⟨rfl, by omega, by omega⟩]
  simp
end Go.Proofs.YtklhdbkaejbajaaDoor.G
