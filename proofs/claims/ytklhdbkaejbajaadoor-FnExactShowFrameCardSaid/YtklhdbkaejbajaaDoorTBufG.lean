/- What is gathered in memory, in general. -/
import Derived.Test.YtklhdbkaejbajaaDoorTBuf
namespace Go.Proofs.YtklhdbkaejbajaaDoor.G
open Go.RowKit Go.Lib
set_option linter.unusedVariables false
set_option linter.unusedSimpArgs false

/-! Elements that are gathered. -/
def BufG {α : Type} (mk : α → List GV) (v : GV) (l : List α) (h : Heap) : Prop := (l = [] ∧ v = .emp) ∨ ∃ b, v = .sl b 0 l.length l.length 1 ∧ h[b]? = some (l.flatMap mk)
theorem BufG.app {α : Type} {mk : α → List GV} (hm1 : ∀ a, (mk a).length = 1) (hmc : ∀ a, (mk a).all GV.isCell = true) {z : List GV} (hz : z.length = 1) {sz : Nat} (hsz : sz ≤ 1024) {v : GV} {l : List α} {h : Heap} (hb : BufG mk v l h) {m : List α} (hm : 0 < m.length) (hl : l.length + m.length ≤ 4194304) :
    ∃ v' h', kapp z 1 sz v (.sl h.length 0 m.length m.length 1) (h ++ [m.flatMap mk]) = some (v', h') ∧ BufG mk v' (l ++ m) h' := by
  have hcm : (m.flatMap mk).length = m.length := by have := len_flat hm1 m; simpa using this
  have hcl : (l.flatMap mk).length = l.length := by have := len_flat hm1 l; simpa using this
  have r1 : m.length * sz ≤ 4194304 * 1024 := Nat.mul_le_mul (by omega) hsz
  have r2 : (l.length + m.length) * sz ≤ 4194304 * 1024 := Nat.mul_le_mul hl hsz
  have hg : gcells (h ++ [m.flatMap mk]) 1 (.sl h.length 0 m.length m.length 1) = some (m.length, m.flatMap mk, [h.length]) := by
    simp only [gcells, Option.bind_eq_bind, cellsAt_if]
    have e : (h ++ [m.flatMap mk])[h.length]? = some (m.flatMap mk) := by simp
    rw [e]
    simp only [Option.bind_some]
    rw [if_pos (by omega)]
    simp only [Option.bind_some, true_and, List.drop_zero]
    rw [if_pos (Nat.le_refl _), List.take_of_length_le (by omega)]
  have hok : (m.flatMap mk).all GV.isCell = true ∧ z.length = 1 ∧ m.length ≤ maxLen ∧ m.length * sz ≤ roomMax := ⟨all_flat hmc m, hz, by simp only [maxLen]; omega, by simp only [roomMax]; omega⟩
  rcases hb with ⟨rfl, rfl⟩ | ⟨b, rfl, hh⟩
  · refine ⟨.sl (h ++ [m.flatMap mk]).length 0 m.length m.length 1, (h ++ [m.flatMap mk]) ++ [m.flatMap mk], ?_, .inr ⟨(h ++ [m.flatMap mk]).length, rfl, by simp⟩⟩
    · unfold kapp
      rw [hg]
      simp only [Option.bind_some]
      rw [if_pos hok, if_neg (by omega)]
  · have hbl := (List.getElem?_eq_some_iff.1 hh).1
    have e : (h ++ [m.flatMap mk])[b]? = some (l.flatMap mk) := by rw [List.getElem?_append_left hbl]; exact hh
    refine ⟨.sl b 0 (l.length + m.length) (l.length + m.length) 1, (h ++ [m.flatMap mk]).set b ((l.flatMap mk).take (l.length * 1) ++ m.flatMap mk), ?_, .inr ⟨b, by rw [List.length_append], ?_⟩⟩
    · unfold kapp
      rw [hg]
      simp only [Option.bind_some]
      rw [if_pos hok]
      simp only [cellsAt_if, e, Option.bind_some]
      rw [if_pos (by omega)]
      simp only [Option.bind_some]
      rw [if_pos ⟨trivial, Nat.le_refl _, by simp only [roomMax]; omega, by simp only [maxLen]; omega⟩, if_neg (by omega), if_pos ⟨trivial, by omega⟩]
    · rw [List.getElem?_set_self (by simp; omega), Nat.mul_one, List.take_of_length_le (by omega), List.flatMap_append]
theorem bor_plain {d : Nat} {h : Heap} : ∀ {l : List GV}, l.all Pl = true → ∃ ys, l.mapM (bor (d + 1) h) = some ys ∧ ys.map (·.1) = l
  | [], _ => ⟨[], rfl, rfl⟩
  | g :: l, hp => by
    rw [List.all_cons, Bool.and_eq_true] at hp
    obtain ⟨ys, h1, h2⟩ := bor_plain (d := d) (h := h) hp.2
    have e : bor (d + 1) h g = some (g, []) := by
      cases g <;> first | (cases hp.1; done) | simp
    exact ⟨(g, []) :: ys, by simp [List.mapM_cons, e, h1], by simp [h2]⟩
/-- Elements in memory, lent. -/
theorem bor_sl {α : Type} {mk : α → List GV} (hm1 : ∀ a, (mk a).length = 1) (hp : ∀ a, (mk a).all Pl = true) {l : List α} {h : Heap} {b : Nat} (hh : h[b]? = some (l.flatMap mk)) : ∃ r, bor 9 h (.sl b 0 l.length l.length 1) = some (fzl true 1 mk l, r) := by
  have hcl : (l.flatMap mk).length = l.length := by have := len_flat hm1 l; simpa using this
  obtain ⟨ys, h1, h2⟩ := bor_plain (d := 7) (h := h) (all_flat hp l)
  have e : bor 9 h (.sl b 0 l.length l.length 1) = (cellsAt h b (0 + l.length * 1)).bind fun cs => (((cs.drop 0).take (l.length * 1)).mapM (bor 8 h)).bind fun xs => if l.length ≤ l.length then (match l.length with | 0 => some (mt, [b]) | n + 1 => some (.fz true (n + 1) 1 (xs.map (·.1)), b :: (xs.map (·.2)).flatten)) else none := rfl
  rw [e, cellsAt_if, hh]
  simp only [Option.bind_some]
  rw [if_pos (by omega)]
  simp only [Option.bind_some, List.drop_zero]
  rw [List.take_of_length_le (by omega), h1]
  simp only [Option.bind_some, Nat.le_refl, if_true, h2]
  cases l with
  | nil => exact ⟨_, rfl⟩
  | cons x l => exact ⟨_, rfl⟩
theorem BufG.bor {α : Type} {mk : α → List GV} (hm1 : ∀ a, (mk a).length = 1) (hp : ∀ a, (mk a).all Pl = true) {v : GV} {l : List α} {h : Heap} (hb : BufG mk v l h) : ∃ r, Go.Proofs.YtklhdbkaejbajaaDoor.G.bor 9 h v = some (fzl true 1 mk l, r) := by
  rcases hb with ⟨rfl, rfl⟩ | ⟨b, rfl, hh⟩
  · exact ⟨[], by simp⟩
  · exact bor_sl hm1 hp hh

end Go.Proofs.YtklhdbkaejbajaaDoor.G
