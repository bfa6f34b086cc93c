/- Draws: bytes and lists that are gathered, cut and changed in memory; tables. -/
import Derived.Test.YtklhdbkaejbajaaDoorTDraw
import Derived.Test.YtklhdbkaejbajaaDoorTBufG
namespace Go.Proofs.YtklhdbkaejbajaaDoor.G
open Go.RowKit Go.Lib
set_option linter.unusedVariables false
set_option linter.unusedSimpArgs false

/-- Gathering: what is appended. -/
theorem BufG.add {α : Type} {mk : α → List GV} (hm1 : ∀ a, (mk a).length = 1) (hmc : ∀ a, (mk a).all GV.isCell = true) {z : List GV} (hz : z.length = 1) {sz : Nat} (hsz : sz ≤ 1024) {v src : GV} {l m : List α} {h : Heap} {r : List Nat} (hb : BufG mk v l h)
    (hs : gcells h 1 src = some (m.length, m.flatMap mk, r)) (hl : l.length + m.length ≤ 4194304) :
    ∃ v' h', kapp z 1 sz v src h = some (v', h') ∧ BufG mk v' (l ++ m) h' ∧ Fr (kblk v) h h' ∧ ∀ i ∈ kblk v', i ∈ kblk v ∨ h.length ≤ i := by
  have lm : (m.flatMap mk).length = m.length := by have := len_flat (mk := mk) (es := 1) hm1 m; simpa using this
  have ll : (l.flatMap mk).length = l.length := by have := len_flat (mk := mk) (es := 1) hm1 l; simpa using this
  have hmul : ∀ k, k ≤ 4194304 → k * sz ≤ roomMax := fun k hk => by
    have := Nat.mul_le_mul hk hsz
    simp only [roomMax]; omega
  have hok : (m.flatMap mk).all GV.isCell = true ∧ z.length = 1 ∧ m.length ≤ maxLen ∧ m.length * sz ≤ roomMax := ⟨all_flat hmc m, hz, by simp only [maxLen]; omega, hmul _ (by omega)⟩
  rcases hb with ⟨rfl, rfl⟩ | ⟨b, rfl, hh⟩
  · by_cases h0 : m.length = 0
    · refine ⟨.emp, h, ?_, .inl ⟨by rw [List.length_eq_zero_iff.1 h0]; rfl, rfl⟩, Fr.refl, fun i hi => .inl hi⟩
      unfold kapp
      rw [hs]
      simp only [Option.bind_some]
      rw [if_pos hok, if_pos h0]
    · refine ⟨.sl h.length 0 m.length m.length 1, h ++ [m.flatMap mk], ?_, .inr ⟨h.length, rfl, by simp⟩, Fr.app, fun i hi => .inr ?_⟩
      · unfold kapp
        rw [hs]
        simp only [Option.bind_some]
        rw [if_pos hok, if_neg h0]
      · simp only [kblk, List.mem_singleton] at hi; omega
  · have hbl := (List.getElem?_eq_some_iff.1 hh).1
    by_cases h0 : m.length = 0
    · have hm0 : m = [] := List.length_eq_zero_iff.1 h0
      subst hm0
      refine ⟨.sl b 0 l.length l.length 1, h.set b (l.flatMap mk), ?_, .inr ⟨b, by rw [List.append_nil], by rw [List.append_nil, List.getElem?_set_self hbl]⟩, Fr.set (by simp [kblk]), fun i hi => .inl hi⟩
      unfold kapp
      rw [hs]
      simp only [Option.bind_some]
      rw [if_pos hok]
      simp only [cellsAt_if, hh, Option.bind_some]
      rw [if_pos (by omega)]
      simp only [Option.bind_some, List.length_nil, Nat.add_zero]
      rw [if_pos ⟨trivial, Nat.le_refl _, hmul _ (by simpa using hl), by simp only [maxLen]; simp at hl; omega⟩, if_pos (Nat.le_refl _)]
      congr 3
      unfold splice
      rw [List.flatMap_nil, List.append_nil, List.length_nil, Nat.add_zero, List.take_append_drop]
    · refine ⟨.sl b 0 (l.length + m.length) (l.length + m.length) 1, h.set b ((l.flatMap mk).take (l.length * 1) ++ m.flatMap mk), ?_, .inr ⟨b, by rw [List.length_append], ?_⟩, Fr.set (by simp [kblk]), fun i hi => .inl hi⟩
      · unfold kapp
        rw [hs]
        simp only [Option.bind_some]
        rw [if_pos hok]
        simp only [cellsAt_if, hh, Option.bind_some]
        rw [if_pos (by omega)]
        simp only [Option.bind_some]
        rw [if_pos ⟨trivial, Nat.le_refl _, hmul _ hl, by simp only [maxLen]; omega⟩, if_neg (by omega), if_pos ⟨trivial, by omega⟩]
      · rw [List.getElem?_set_self hbl, Nat.mul_one, List.take_of_length_le (by omega), List.flatMap_append]
theorem BufG.keep {α : Type} {mk : α → List GV} {v : GV} {l : List α} {h h' : Heap} {R : List Nat} (hb : BufG mk v l h) (hf : Fr R h h') (hd : ∀ i ∈ kblk v, i ∉ R) : BufG mk v l h' := by
  rcases hb with h0 | ⟨b, rfl, hh⟩
  · exact .inl h0
  · exact .inr ⟨b, rfl, by rw [hf.2 b (List.getElem?_eq_some_iff.1 hh).1 (hd b (by simp [kblk]))]; exact hh⟩
theorem gcells_lit {α : Type} {mk : α → List GV} (hm1 : ∀ a, (mk a).length = 1) {h : Heap} {m : List α} : gcells (h ++ [m.flatMap mk]) 1 (.sl h.length 0 m.length m.length 1) = some (m.length, m.flatMap mk, [h.length]) := by
  have lm : (m.flatMap mk).length = m.length := by have := len_flat (mk := mk) (es := 1) hm1 m; simpa using this
  simp only [gcells, Option.bind_eq_bind, cellsAt_if]
  have e : (h ++ [m.flatMap mk])[h.length]? = some (m.flatMap mk) := by simp
  rw [e]
  simp only [Option.bind_some]
  rw [if_pos (by omega)]
  simp only [Option.bind_some, true_and, List.drop_zero]
  rw [if_pos (Nat.le_refl _), List.take_of_length_le (by omega)]

/-- Bytes in some block: v tells them. -/
def Bytes (v : GV) (l : List UInt8) (h : Heap) : Prop := (l = [] ∧ v = .emp) ∨ ∃ b o c cells, v = .sl b o l.length c 1 ∧ l.length ≤ c ∧ h[b]? = some cells ∧ cells.length = o + c ∧ (cells.drop o).take l.length = l.flatMap cy
theorem Bytes.of {v : GV} {l : List UInt8} {h : Heap} (hb : BufG cy v l h) : Bytes v l h := by
  rcases hb with h0 | ⟨b, rfl, hh⟩
  · exact .inl h0
  · exact .inr ⟨b, 0, l.length, _, rfl, Nat.le_refl _, hh, by rw [cy_len]; omega, by rw [List.drop_zero, List.take_of_length_le (by rw [cy_len]; omega)]⟩
theorem Bytes.keep {v : GV} {l : List UInt8} {h h' : Heap} {R : List Nat} (hb : Bytes v l h) (hf : Fr R h h') (hd : ∀ i ∈ kblk v, i ∉ R) : Bytes v l h' := by
  rcases hb with h0 | ⟨b, o, c, cells, rfl, a1, hh, a2, a3⟩
  · exact .inl h0
  · exact .inr ⟨b, o, c, cells, rfl, a1, by rw [hf.2 b (List.getElem?_eq_some_iff.1 hh).1 (hd b (by simp [kblk]))]; exact hh, a2, a3⟩
theorem Bytes.cells {v : GV} {l : List UInt8} {h : Heap} (hb : Bytes v l h) : ∃ r, gcells h 1 v = some (l.length, l.flatMap cy, r) := by
  rcases hb with ⟨rfl, rfl⟩ | ⟨b, o, c, cells, rfl, a1, hh, a2, a3⟩
  · exact ⟨[], rfl⟩
  · refine ⟨[b], ?_⟩
    simp only [gcells, Option.bind_eq_bind, cellsAt_if, hh, Option.bind_some, Nat.mul_one]
    rw [if_pos a2]
    simp only [Option.bind_some, true_and]
    rw [if_pos a1, a3]
theorem Bytes.len {v : GV} {l : List UInt8} {h : Heap} (hb : Bytes v l h) : klen v = some (.int .i64 (l.length : Nat)) := by
  rcases hb with ⟨rfl, rfl⟩ | ⟨b, o, c, cells, rfl, _⟩ <;> rfl
theorem Bytes.str {v : GV} {l : List UInt8} {h : Heap} (hb : Bytes v l h) : kbstr h v = some (.str (bs l)) := by
  obtain ⟨r, hr⟩ := hb.cells
  have key : (gcells h 1 v).bind (fun (n, cs, _) => (cs.mapM gbyte).bind fun ns => if ns.length = n then some (GV.str ⟨(ns.map fun n => UInt8.ofNat n.toNat).toArray⟩) else none) = some (.str (bs l)) := by
    rw [hr]
    simp only [Option.bind_some, gbytes]
    rw [if_pos (by rw [List.length_map])]
    congr 3
    rw [List.map_map]
    congr 1
    conv => rhs; rw [← List.map_id l]
    apply List.map_congr_left
    intro b _
    simp
  rcases hb with ⟨rfl, rfl⟩ | ⟨b, o, c, cells, rfl, _⟩
  · rfl
  · exact key
theorem Bytes.lt {v : GV} {l : List UInt8} {h : Heap} (hb : Bytes v l h) : ∀ i ∈ kblk v, i < h.length := by
  rcases hb with ⟨rfl, rfl⟩ | ⟨b, o, c, cells, rfl, a1, hh, _⟩
  · intro i hi; cases hi
  · intro i hi; simp only [kblk, List.mem_singleton] at hi; subst hi; exact (List.getElem?_eq_some_iff.1 hh).1
theorem Bytes.from {v : GV} {l : List UInt8} {h : Heap} (hb : Bytes v l h) {k : Nat} (hk : k ≤ l.length) : ∃ v', ksl 1 v (some (.int .i64 (k : Nat))) none none = some v' ∧ Bytes v' (l.drop k) h ∧ kblk v' = kblk v := by
  rcases hb with ⟨rfl, rfl⟩ | ⟨b, o, c, cells, rfl, a1, hh, a2, a3⟩
  · have : k = 0 := by simpa using hk
    subst this
    exact ⟨.emp, rfl, .inl ⟨rfl, rfl⟩, rfl⟩
  · refine ⟨.sl b (o + k) (l.length - k) (c - k) 1, ?_, .inr ⟨b, o + k, c - k, cells, by rw [List.length_drop], by rw [List.length_drop]; omega, hh, by omega, ?_⟩, rfl⟩
    · simp only [ksl, kslice, gslice, gopt, gint, if_true, Option.isSome_none, Bool.false_eq_true, false_and, if_false, Option.bind_eq_bind, Option.bind_some]
      rw [if_pos ⟨by omega, by omega, by omega, by omega⟩]
      simp
    · rw [List.length_drop, ← List.drop_drop, ← List.drop_take, a3]
      have e := drop_flat (mk := cy) (es := 1) (fun _ => rfl) l k
      rw [Nat.mul_one] at e
      rw [e]
theorem Bytes.to {v : GV} {l : List UInt8} {h : Heap} (hb : Bytes v l h) {k : Nat} (hk : k ≤ l.length) : ∃ v', ksl 1 v none (some (.int .i64 (k : Nat))) none = some v' ∧ Bytes v' (l.take k) h ∧ kblk v' = kblk v := by
  rcases hb with ⟨rfl, rfl⟩ | ⟨b, o, c, cells, rfl, a1, hh, a2, a3⟩
  · have : k = 0 := by simpa using hk
    subst this
    exact ⟨.emp, rfl, .inl ⟨rfl, rfl⟩, rfl⟩
  · refine ⟨.sl b o k c 1, ?_, .inr ⟨b, o, c, cells, by rw [List.length_take, Nat.min_eq_left hk], by rw [List.length_take]; omega, hh, a2, ?_⟩, rfl⟩
    · simp only [ksl, kslice, gslice, gopt, gint, if_true, Option.isSome_none, Bool.false_eq_true, false_and, if_false, Option.bind_eq_bind, Option.bind_some]
      rw [if_pos ⟨by omega, by omega, by omega, by omega⟩]
      simp
    · rw [List.length_take, Nat.min_eq_left hk]
      have e : (cells.drop o).take k = ((cells.drop o).take l.length).take k := by rw [List.take_take, Nat.min_eq_left hk]
      rw [e, a3]
      have : ((l.take k) ++ (l.drop k)).flatMap cy = (l.take k).flatMap cy ++ (l.drop k).flatMap cy := List.flatMap_append
      rw [List.take_append_drop] at this
      rw [this, List.take_append_of_le_length (by rw [cy_len, List.length_take]; omega), List.take_of_length_le (by rw [cy_len, List.length_take]; omega)]
/-- A byte is written. -/
theorem Bytes.set {v : GV} {l : List UInt8} {h : Heap} (hb : Bytes v l h) {k : Nat} (hk : k < l.length) {c : UInt8} : ∃ q h', kia 1 v (.int .i64 (k : Nat)) = some q ∧ kstore 1 h q (.int .u8 (c.toNat : Int)) = some h' ∧ Bytes v (l.set k c) h' ∧ Fr (kblk v) h h' := by
  rcases hb with ⟨rfl, rfl⟩ | ⟨b, o, cap, cells, rfl, a1, hh, a2, a3⟩
  · cases hk
  · have ho : o + k < cells.length := by omega
    refine ⟨.ptr b (o + k) (o + cap), h.set b (cells.set (o + k) (.int .u8 (c.toNat : Int))), ?_, ?_, .inr ⟨b, o, cap, _, by rw [List.length_set], by rw [List.length_set]; exact a1, set_get hh, by rw [List.length_set]; exact a2, ?_⟩, Fr.set (by simp [kblk])⟩
    · rw [kia_sl, if_pos ⟨rfl, by omega, by omega⟩]; simp
    · exact kstore_at hh a2 (by omega) rfl rfl
    · rw [List.length_set, List.drop_set, if_neg (by omega), show o + k - o = k by omega, List.take_set]
      have e := cy_set (l := l) (j := k) (c := c)
      rw [← a3] at e
      exact e
/-- A table: what lies at some place of it. -/
theorem tab {P : GV → Prop} {cells : List GV} (hP : ∀ g ∈ cells, P g) {H : Heap} {b n : Nat} (hh : H[b]? = some cells) (hn : cells.length = n) {x : Int} (h0 : 0 ≤ x) (h1 : x < n) : ∃ q g, kia 1 (.sl b 0 n n 1) (.int .i64 x) = some q ∧ kload1 H q = some g ∧ P g := by
  have hx : x.toNat < cells.length := by omega
  refine ⟨.ptr b x.toNat n, cells[x.toNat], ?_, ?_, hP _ (List.getElem_mem hx)⟩
  · rw [kia_sl, if_pos ⟨rfl, h0, h1⟩]; simp
  · rw [kload1_at hh hn, List.getElem?_eq_getElem hx]
end Go.Proofs.YtklhdbkaejbajaaDoor.G
