/- Loops that end early; texts that are cut. -/
import Derived.Test.YtklhdbkaejbajaaDoorTBufG
import Derived.Test.YtklhdbkaejbajaaDoorTIn
namespace Go.Proofs.YtklhdbkaejbajaaDoor.G
open Go.RowKit Go.Lib
set_option linter.unusedVariables false
set_option linter.unusedSimpArgs false
theorem loop_post {Q T : Type} {n : Nat} {Inv : Nat → T → Prop} {f : Nat → Nat → T → Q} {Post : Q → Prop}
    (h1 : ∀ j r s, j < n → Inv j s → (∃ s', f (r + 1) j s = f r (j + 1) s' ∧ Inv (j + 1) s') ∨ Post (f (r + 1) j s))
    (h2 : ∀ r s, Inv n s → Post (f (r + 1) n s)) {s : T} (h0 : Inv 0 s) {m : Nat} (hm : n < m) : Post (f m 0 s) := by
  have key : ∀ m j s, n - j < m → j ≤ n → Inv j s → Post (f m j s) := by
    intro m
    induction m with
    | zero => intro j s h; omega
    | succ m ih =>
      intro j s hm hj hi
      rcases Nat.lt_or_ge j n with h | h
      · rcases h1 j m s h hi with ⟨s', a1, a2⟩ | a
        · rw [a1]; exact ih (j + 1) s' (by omega) (by omega) a2
        · exact a
      · have : j = n := by omega
        subst this
        exact h2 m s hi
  exact key m 0 s (by omega) (by omega) h0
theorem BufG.frz {α : Type} {mk : α → List GV} (hm1 : ∀ a, (mk a).length = 1) {d : Nat} {v : GV} {l : List α} {h : Heap} (hf : ∀ a ∈ l, Frz d h (mk a) (mk a)) (hb : BufG mk v l h) : ∃ r, Go.Proofs.YtklhdbkaejbajaaDoor.G.frz (d + 1) h v = some (fzl false 1 mk l, r) := by
  rcases hb with ⟨rfl, rfl⟩ | ⟨b, rfl, hh⟩
  · exact ⟨[], by simp⟩
  · exact ⟨_, frz_sl (rest := []) hm1 (by simpa using hh) (by have := len_flat hm1 l; simpa using this) (Nat.le_refl _) hf⟩
theorem slS_mid {l : List UInt8} {a b : Nat} (h1 : a ≤ b) (h2 : b ≤ l.length) : kslS (.str (bs l)) (some (.int .i64 (a : Nat))) (some (.int .i64 (b : Nat))) none = some (.str (bs ((l.take b).drop a))) :=
  kslS_bs (l := l) rfl (a := a) (b := b) rfl rfl h1 h2
theorem slS_to {l : List UInt8} {b : Nat} (h2 : b ≤ l.length) : kslS (.str (bs l)) none (some (.int .i64 (b : Nat))) none = some (.str (bs (l.take b))) := by
  rw [kslS_bs (l := l) rfl (a := 0) (b := b) rfl rfl (by omega) h2, List.drop_zero]
theorem slS_from {l : List UInt8} {a : Nat} (h1 : a ≤ l.length) : kslS (.str (bs l)) (some (.int .i64 (a : Nat))) none none = some (.str (bs (l.drop a))) := by
  rw [kslS_bs (l := l) rfl (a := a) (b := l.length) rfl rfl h1 (Nat.le_refl _), List.take_length]

end Go.Proofs.YtklhdbkaejbajaaDoor.G
