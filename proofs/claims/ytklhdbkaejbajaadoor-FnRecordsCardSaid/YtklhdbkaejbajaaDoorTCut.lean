/- Library calls on texts; loops; digits ahead. -/
import Derived.Test.YtklhdbkaejbajaaDoorTLead
namespace Go.Proofs.YtklhdbkaejbajaaDoor.G
open Go.RowKit Go.Lib
set_option linter.unusedVariables false
set_option linter.unusedSimpArgs false

theorem cut_spec (s : List UInt8) (h : s.length ≤ 1048576) : NN fn.strings_Cut [.str (bs s), .str { data := #[32] }] = some (.tup [.str (bs (cut s [32]).1), .str (bs (cut s [32]).2.1), .bool (cut s [32]).2.2]) := by
  show rCut [.str (bs s), .str { data := #[32] }] = _
  show (if (bs s).size < 4294967281 then _ else none) = _
  rw [if_pos (by rw [bs_size]; omega)]
theorem pi_spec (s : List UInt8) (h : s.length ≤ 1048576) : ∃ n ev, NN fn.strconv_ParseInt [.str (bs s), .int .i64 10, .int .i64 64] = some (.tup [.int .i64 n, ev]) ∧ ((ev = .nili ∧ parseIntB 64 s = .ok n) ∨ (ev = .ifc ∧ ∀ v, parseIntB 64 s ≠ .ok v)) := by
  have e : NN fn.strconv_ParseInt [.str (bs s), .int .i64 10, .int .i64 64] = match parseIntB 64 s with
      | .ok v => some (.tup [.int .i64 v, .nili])
      | .range => some (.tup [.int .i64 (intSat 64 s), .ifc])
      | _ => some (.tup [.int .i64 0, .ifc]) := by
    show rParseInt [.str (bs s), .int .i64 10, .int .i64 64] = _
    show (if (bs s).size ≤ 281474976710656 then _ else none) = _
    rw [if_pos (by rw [bs_size]; omega)]
    rfl
  rw [e]
  cases hp : parseIntB 64 s with
  | ok v => exact ⟨v, .nili, rfl, .inl ⟨rfl, rfl⟩⟩
  | range => exact ⟨_, .ifc, rfl, .inr ⟨rfl, fun v hv => by cases hv⟩⟩
  | _ => exact ⟨_, .ifc, rfl, .inr ⟨rfl, fun v hv => by cases hv⟩⟩
theorem ne_nil : gbinop PP .neq 113 (.tmp 40) (.const .nilIface) .nili .nili = some (.bool false) := by kernel_rfl
theorem ne_ifc : gbinop PP .neq 113 (.tmp 40) (.const .nilIface) .ifc .nili = some (.bool true) := by kernel_rfl

theorem loopTo {Q : Type} {n : Nat} {f : Nat → Nat → Q} {A : Q} (h1 : ∀ j r, j < n → f (r + 1) j = f r (j + 1)) (h2 : ∀ r, f (r + 1) n = A) {m : Nat} (hm : n < m) : f m 0 = A := by
  have key : ∀ m j, n - j < m → j ≤ n → f m j = A := by
    intro m
    induction m with
    | zero => intro j h; omega
    | succ m ih =>
      intro j hm hj
      rcases Nat.lt_or_ge j n with h | h
      · rw [h1 j m h]; exact ih (j + 1) (by omega) (by omega)
      · have : j = n := by omega
        subst this
        exact h2 m
  exact key m 0 (by omega) (by omega)
theorem valM_small {l : List UInt8} (h : ∀ c ∈ l, isDig c = true) {j : Nat} (hj : j ≤ l.length) (h14 : j ≤ 14) : 0 ≤ valM (l.take j) ∧ valM (l.take j) < 100000000000000 := by
  have h1 := valM_bt h j hj
  have h2 : (10 : Nat) ^ j ≤ 10 ^ 14 := Nat.pow_le_pow_right (by omega) h14
  have h3 : ((10 ^ j : Nat) : Int) = (10 : Int) ^ j := by rw [Int.natCast_pow]; rfl
  have h4 : ((10 ^ j : Nat) : Int) ≤ ((100000000000000 : Nat) : Int) := Int.ofNat_le.2 (Nat.le_trans h2 (by decide))
  rw [h3] at h4
  omega
theorem lead_dig (n : Nat) (d : List UInt8) : ∀ c ∈ lead n d, isDig c = true := fun c hc => by
  obtain ⟨j, hj, rfl⟩ := List.getElem_of_mem hc
  obtain ⟨_, h1, _, h2⟩ := lead_lt n d j hj
  rw [h2]; exact h1
end Go.Proofs.YtklhdbkaejbajaaDoor.G
