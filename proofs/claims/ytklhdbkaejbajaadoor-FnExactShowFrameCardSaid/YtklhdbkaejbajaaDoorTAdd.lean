/- What is gathered in memory, and what stays as it was. -/
import Derived.Test.YtklhdbkaejbajaaDoorTBufG
import Derived.Test.YtklhdbkaejbajaaDoorTFr
namespace Go.Proofs.YtklhdbkaejbajaaDoor.G
open Go.RowKit Go.Lib
set_option linter.unusedVariables false
set_option linter.unusedSimpArgs false

/-- Gathering: what is appended. -/
theorem BufG.add {α : Type} {mk : α → List GV} (hm1 : ∀ a, (mk a).length = 1) (hmc : ∀ a, (mk a).all GV.isCell = true) {z : List GV} (hz : z.length = 1) {sz : Nat} (hsz : sz ≤ 1024) {v src : GV} {l m : List α} {h : Heap} {r : List Nat} (hb : BufG mk v l h)
    (hs : gcells h 1 src = some (m.length, m.flatMap mk, r)) (hl : l.length + m.length ≤ 4194304) :
    ∃ v' h', kapp z 1 sz v src h = some (v', h') ∧ BufG mk v' (l ++ m) h' ∧ Fr (kblk v) h h' ∧ ∀ i ∈ kblk v', i ∈ kblk v ∨ h.length ≤ i := by
  have lm : (m.flatMap mk).length = m.length := by have := len_flat (mk := mk) (es := 1) hm1 m; simpa using this
  have ll : (l.flatMap mk).length = l.length := by have := len_flat (mk := mk) (es := 1) hm1 l; simpa using this
  have hmul : ∀ k, k ≤ 4194304 → k * sz ≤ roomMax := fun k hk => by
    have := Nat.mul_le_mul hk hsz
    simp only [roomMax]; omega
  have hok : (m.flatMap mk).all GV.isCell = true ∧ z.length = 1 ∧ m.length ≤ maxLen ∧ m.length * sz ≤ roomMax := ⟨all_flat hmc m, hz, by simp only [maxLen]; omega, hmul _ (by omega)⟩
  rcases hb with ⟨rfl, rfl⟩ | ⟨b, rfl, hh⟩
  · by_cases h0 : m.length = 0
    · refine ⟨.emp, h, ?_, .inl ⟨by rw [List.length_eq_zero_iff.1 h0]; rfl, rfl⟩, Fr.refl, fun i hi => .inl hi⟩
      unfold kapp
      rw [hs]
      simp only [Option.bind_some]
      rw [if_pos hok, if_pos h0]
    · refine ⟨.sl h.length 0 m.length m.length 1, h ++ [m.flatMap mk], ?_, .inr ⟨h.length, rfl, by simp⟩, Fr.app, fun i hi => .inr ?_⟩
      · unfold kapp
        rw [hs]
        simp only [Option.bind_some]
        rw [if_pos hok, if_neg h0]
      · simp only [kblk, List.mem_singleton] at hi; omega
  · have hbl := (List.getElem?_eq_some_iff.1 hh).1
    by_cases h0 : m.length = 0
    · have hm0 : m = [] := List.length_eq_zero_iff.1 h0
      subst hm0
      refine ⟨.sl b 0 l.length l.length 1, h.set b (l.flatMap mk), ?_, .inr ⟨b, by rw [List.append_nil], by rw [List.append_nil, List.getElem?_set_self hbl]⟩, Fr.set (by simp [kblk]), fun i hi => .inl hi⟩
      unfold kapp
      rw [hs]
      simp only [Option.bind_some]
      rw [if_pos hok]
      simp only [cellsAt_if, hh, Option.bind_some]
      rw [if_pos (by omega)]
      simp only [Option.bind_some, List.length_nil, Nat.add_zero]
      rw [if_pos ⟨trivial, Nat.le_refl _, hmul _ (by simpa using hl), by simp only [maxLen]; simp at hl; omega⟩, if_pos (Nat.le_refl _)]
      congr 3
      unfold splice
      rw [List.flatMap_nil, List.append_nil, List.length_nil, Nat.add_zero, List.take_append_drop]
    · refine ⟨.sl b 0 (l.length + m.length) (l.length + m.length) 1, h.set b ((l.flatMap mk).take (l.length * 1) ++ m.flatMap mk), ?_, .inr ⟨b, by rw [List.length_append], ?_⟩, Fr.set (by simp [kblk]), fun i hi => .inl hi⟩
      · unfold kapp
        rw [hs]
        simp only [Option.bind_some]
        rw [if_pos hok]
        simp only [cellsAt_if, hh, Option.bind_some]
        rw [if_pos (by omega)]
        simp only [Option.bind_some]
        rw [if_pos ⟨trivial, Nat.le_refl _, hmul _ hl, by simp only [maxLen]; omega⟩, if_neg (by omega), if_pos ⟨trivial, by omega⟩]
      · rw [List.getElem?_set_self hbl, Nat.mul_one, List.take_of_length_le (by omega), List.flatMap_append]
theorem BufG.keep {α : Type} {mk : α → List GV} {v : GV} {l : List α} {h h' : Heap} {R : List Nat} (hb : BufG mk v l h) (hf : Fr R h h') (hd : ∀ i ∈ kblk v, i ∉ R) : BufG mk v l h' := by
  rcases hb with h0 | ⟨b, rfl, hh⟩
  · exact .inl h0
  · exact .inr ⟨b, rfl, by rw [hf.2 b (List.getElem?_eq_some_iff.1 hh).1 (hd b (by simp [kblk]))]; exact hh⟩
theorem gcells_lit {α : Type} {mk : α → List GV} (hm1 : ∀ a, (mk a).length = 1) {h : Heap} {m : List α} : gcells (h ++ [m.flatMap mk]) 1 (.sl h.length 0 m.length m.length 1) = some (m.length, m.flatMap mk, [h.length]) := by
  have lm : (m.flatMap mk).length = m.length := by have := len_flat (mk := mk) (es := 1) hm1 m; simpa using this
  simp only [gcells, Option.bind_eq_bind, cellsAt_if]
  have e : (h ++ [m.flatMap mk])[h.length]? = some (m.flatMap mk) := by simp
  rw [e]
  simp only [Option.bind_some]
  rw [if_pos (by omega)]
  simp only [Option.bind_some, true_and, List.drop_zero]
  rw [if_pos (Nat.le_refl _), List.take_of_length_le (by omega)]

end Go.Proofs.YtklhdbkaejbajaaDoor.G
